/- The law JournalSteps. (Printed by gen_mq.py.) No condition. -/
import Derived.Test.YthlidhfahaalgaaQK
import Derived.Test.YthlidhfahaalgaaQMO
set_option linter.unusedVariables false
set_option linter.unusedSimpArgs false
set_option maxRecDepth 100000
set_option maxHeartbeats 32000000
namespace Go.Proofs.Ythlidhfahaalgaa
open Go.RowKit
attribute [local go_sem] Oper.semAt_some
attribute [local go_sem ↓ high] app_named
section
variable {P : Program} {ops : Array Oper} {md : Region.Mode} {N : Act → World → Prop} {C : World → Prop}
theorem anyG_three {z n i j l : Nat} {listed : Array Bool} {a : Act} {w : World} (hr : Region.ready md ops listed = [i, j, l]) (hC : listed.getD z true = false → C w)
    (h1 : wpOp P ops (Nrm N) i (anyG P md ops N C z n (listed.setIfInBounds i true)) a w) (h2 : wpOp P ops (Nrm N) j (anyG P md ops N C z n (listed.setIfInBounds j true)) a w) (h3 : wpOp P ops (Nrm N) l (anyG P md ops N C z n (listed.setIfInBounds l true)) a w) : anyG P md ops N C z (n + 1) listed a w := by
  refine ⟨hC, fun h0 => (by rw [h0] at hr; cases hr), fun k hk => ?_⟩
  rw [hr] at hk
  simp only [List.mem_cons, List.not_mem_nil, or_false] at hk
  rcases hk with rfl | rfl | rfl
  · exact h1
  · exact h2
  · exact h3
theorem anyG_alone {z n i : Nat} {listed : Array Bool} {a : Act} {w : World} (hr : Region.ready md ops listed = [i]) (hC : listed.getD z true = false → C w) (h : wpOp P ops (Nrm N) i (anyG P md ops N C z n (listed.setIfInBounds i true)) a w) : anyG P md ops N C z (n + 1) listed a w := by
  refine ⟨hC, fun h0 => (by rw [h0] at hr; cases hr), fun k hk => ?_⟩
  rw [hr, List.mem_singleton] at hk
  subst hk
  exact h
end
theorem run_app_op {o : Oper} {ev : Operand → Value} {t : TypeId} {x y : Operand} {vx vy v : Value} {w w' : World} (ho : o.op = .call { callee := .builtin .append, args := #[x, y], argTypes := #[t, t] }) (hty : o.type = t) (hx : ev x = vx) (hy : ev y = vy) (h : (appF #[t, t] t #[vx, vy]).run Try.prog w = .ok v w') : (execOp ev o).run Try.prog w = .ok (.value v) w' := by
  subst hty hx hy
  have e : execOp ev o = (do let d ← resolve ev { callee := .builtin .append, args := #[x, y], argTypes := #[o.type, o.type] } o.type; invoke d.target d.args) := by
    unfold execOp
    rw [ho]
  have e2 : resolve ev { callee := .builtin .append, args := #[x, y], argTypes := #[o.type, o.type] } o.type = pure { target := .builtin .append #[o.type, o.type] o.type (#[x, y].map fun | .const _ => true | _ => false), args := #[ev x, ev y] } := by
    simp [resolve]
    rfl
  rw [e, e2]
  have e3 : (do let d ← (pure { target := .builtin .append #[o.type, o.type] o.type (#[x, y].map fun | .const _ => true | _ => false), args := #[ev x, ev y] } : Sem Deferred); invoke d.target d.args) = builtin .append #[o.type, o.type] o.type (#[x, y].map fun | .const _ => true | _ => false) #[ev x, ev y] := rfl
  rw [e3, app_named]
  simp [go_sem, h]
theorem own_made0 (w : World) {base : Nat} (hb : base ≤ w.heap.size) (Q : Nat → Prop) : OwnRw (w.alloc (.cells #[] 35)) base Q (.slice (some ⟨w.heap.size, 0, none⟩) 0 0) [] :=
  ⟨[], ⟨by simp, .inr ⟨w.heap.size, 0, #[], rfl, hb, heap_alloc_new w _, Nat.le_refl _, Nat.zero_le _, by simp, by simp⟩⟩, fun i x u h => by simp at h⟩
theorem rw_all {w : World} {L : List Nat} {V : Value} {l : List Bs} (h : Hid (RwAt w (Out L) V l)) : Hid (RwAt w (Out []) V l) := Lib.hid (h.out.weak fun _ _ _ hc => by cases hc)
theorem dk_all {w : World} {L : List Nat} {V U : Value} {d : Dk} (h : Hid (DkAt w (Out L) V U d)) : Hid (DkAt w (Out []) V U d) := Lib.hid (h.out.weak fun _ _ _ hc => by cases hc)
theorem rw_swap {w : World} {a b : Nat} {V : Value} {l : List Bs} (h : Hid (RwAt w (Out [a, b]) V l)) : Hid (RwAt w (Out [b, a]) V l) := Lib.hid (h.out.weak fun x hx _ hc => hx (by simp only [List.mem_cons, List.not_mem_nil, or_false] at hc ⊢; exact hc.symm))
theorem dk_swap {w : World} {a b : Nat} {V U : Value} {d : Dk} (h : Hid (DkAt w (Out [a, b]) V U d)) : Hid (DkAt w (Out [b, a]) V U d) := Lib.hid (h.out.weak fun x hx _ hc => hx (by simp only [List.mem_cons, List.not_mem_nil, or_false] at hc ⊢; exact hc.symm))
theorem inW_swap {w : World} {a b : Nat} (h : InW [a, b] w) : InW [b, a] w := fun x hx => h x (by simp only [List.mem_cons, List.not_mem_nil, or_false] at hx ⊢; exact hx.symm)
theorem gen_any {P : Program} {ops : Array Oper} {md : Region.Mode} {N : Act → World → Prop} {C : World → Prop} {z n : Nat} {listed : Array Bool} {a : Act} {w : World} (h : ∀ F, F = anyG P md ops N C z → ∀ a0, a0 = a → F n listed a0 w) : anyG P md ops N C z n listed a w := h _ rfl _ rfl
section
variable {nn s m : Nat} {R M : List Bs} {A : Option Addr} {c : Nat} {w : World} {Lx : List Nat}
theorem jAddA {Ar : Option Addr} {nr cr m2 : Nat} (hL : InW Lx w) (hk : Hid (Jok ⟨R, nn, s⟩ R nn s)) (hm : Hid (R.length = m)) (hR : Hid (RwAt w (Out Lx) (.slice A m c) R)) (hrec : Hid (RwAt w (Out Lx) (.slice Ar nr cr) M)) (hnr : Hid (M.length = nr)) (hrl : Hid (∀ b ∈ M, b.length ≤ 140737488351232)) (hm2 : Hid ((accT nn R M).length = m2)) :
    Calls Try.prog 28 #[.agg #[.slice A m c, .int .i64 (nn : Int), .int .i64 (s : Int)], .slice Ar nr cr] w fun e w' => ∃ A' c', e = .returned (.agg #[.slice A' m2 c', .int .i64 (nn : Int), .int .i64 (s : Int)]) ∧ Hid (RwAt w' (Out Lx) (.slice A' m2 c') (accT nn R M)) ∧ Below w.heap.size w w' := by
  refine (jAdd_any ⟨R, nn, s⟩ R M nn s m A c Ar nr cr Lx w hL hk hm hR hrec hnr hrl).mono ?_
  rintro e w' ⟨A', m', c', J', rfl, _, h1, h2, h3⟩
  obtain rfl : m' = m2 := h1.out.symm.trans hm2.out
  exact ⟨A', c', rfl, h2, h3⟩
theorem jSyncA {S S' : List Bs} {As Ap : Option Addr} {cs cp : Nat} (hL : InW Lx w) (hk : Hid (Jok ⟨R, nn, s⟩ R nn s)) (hm : Hid (R.length = m)) (hy : Hid (syncJ ⟨R, nn, s⟩ ⟨S, [], -1, false⟩ = (⟨R, nn, (R.length : Nat)⟩, ⟨S', [], -1, false⟩, 0))) (h0 : Hid (S.length = nn)) (h1 : Hid (S'.length = nn)) (hR : Hid (RwAt w (Out Lx) (.slice A m c) R)) (hD : Hid (DkAt w (Out Lx) (.slice As nn cs) (.slice Ap 0 cp) ⟨S, [], -1, false⟩)) :
    Calls Try.prog 21 #[.agg #[.slice A m c, .int .i64 (nn : Int), .int .i64 (s : Int)], .agg #[.slice As nn cs, .slice Ap 0 cp, .int .i64 (-1), .bool false]] w fun e w' => ∃ A2 c2 S2 p2 P2 q2, e = .returned (.tuple #[.agg #[.slice A2 m c2, .int .i64 (nn : Int), .int .i64 (m : Int)], .agg #[.slice S2 nn p2, .slice P2 0 q2, .int .i64 (-1), .bool false], .int .i64 0]) ∧ Hid (RwAt w' (Out Lx) (.slice A2 m c2) R) ∧ Hid (DkAt w' (Out Lx) (.slice S2 nn p2) (.slice P2 0 q2) ⟨S', [], -1, false⟩) ∧ Below w.heap.size w w' := by
  have h2 : Hid (JnIs ⟨R, nn, s⟩ m nn s) := Lib.hid (hk.out.jn hm.out)
  have h3 : Hid (JnIs ⟨R, nn, (R.length : Nat)⟩ m nn m) := Lib.hid ⟨hm.out, rfl, by rw [← hm.out]⟩
  have h4 : Hid (DkIs ⟨S, [], -1, false⟩ (-1) false) := Lib.hid ⟨rfl, rfl⟩
  refine (jSync_at (J := ⟨R, nn, s⟩) (d := ⟨S, [], -1, false⟩) hR h2 (Lib.hid (ok_sum hk.out.ok)) hD h4 h0 (Lib.hid rfl)).mono ?_
  rintro e w' hh
  obtain ⟨A2, c2, S2, p2, P2, q2, rfl, R2, E2, hb⟩ := RetJD.is hh hL hy h3 (ns := nn) (np := 0) (dl := -1) (ds := false) h1 (Lib.hid rfl) (Lib.hid rfl) (Lib.hid rfl)
  exact ⟨A2, c2, S2, p2, P2, q2, rfl, R2, E2, hb⟩
theorem jOpenA {S : List Bs} {As Ap : Option Addr} {cs cp : Nat} (hL : InW Lx w) (ho : Hid (openT ⟨S, [], -1, false⟩ = (⟨R, nn, (s : Nat)⟩, 0))) (hm : Hid (R.length = m)) (hD : Hid (DkAt w (Out Lx) (.slice As nn cs) (.slice Ap 0 cp) ⟨S, [], -1, false⟩)) :
    Calls Try.prog 12 #[.agg #[.slice As nn cs, .slice Ap 0 cp, .int .i64 (-1), .bool false]] w fun e w' => ∃ A2 c2, e = .returned (.tuple #[.agg #[.slice A2 m c2, .int .i64 (nn : Int), .int .i64 (s : Int)], .int .i64 0]) ∧ Hid (RwAt w' (Out Lx) (.slice A2 m c2) R) ∧ Below w.heap.size w w' := by
  have h4 : Hid (DkIs ⟨S, [], -1, false⟩ (-1) false) := Lib.hid ⟨rfl, rfl⟩
  refine (jOpen_at (d := ⟨S, [], -1, false⟩) hD h4).mono ?_
  rintro e w' hh
  obtain ⟨A2, c2, rfl, R2, hb⟩ := RetJn.is hh hL ho (Lib.hid ⟨hm.out, rfl, rfl⟩ : Hid (JnIs ⟨R, nn, (s : Nat)⟩ m nn s))
  exact ⟨A2, c2, rfl, R2, hb⟩
end
theorem lawSteps (nn : Nat) (hnn : Hid (nn = 40)) (a b E0 E1 E2 E3 : List Bs) (ST : Hid (StepsJ nn a b E0 E1 E2 E3)) (hS0 : Hid (newT 40 = (⟨E0, [], -1, false⟩, 0))) (Aa : Option Addr) (na ca : Nat) (Ab : Option Addr) (nb cb : Nat) (w : World) (hA : Hid (RwAt w (Out []) (.slice Aa na ca) a)) (hBr : Hid (RwAt w (Out []) (.slice Ab nb cb) b)) (hna : Hid (a.length = na)) (hnb : Hid (b.length = nb)) (hla : Hid (∀ x ∈ a, x.length ≤ 140737488351232)) (hlb : Hid (∀ x ∈ b, x.length ≤ 140737488351232)) (hab : Hid (na + nb ≤ 4194304)) :
    Calls Try.prog 8 #[.slice Aa na ca, .slice Ab nb cb] w fun e w' => e = .returned (.bool true) ∧ Below w.heap.size w w' := by
  have hB := Below.refl w.heap.size w
  obtain ⟨ra, hra⟩ : ∃ k, (accT nn [] a).length = k := ⟨_, rfl⟩
  obtain ⟨rb, hrb⟩ : ∃ k, (accT nn (accT nn [] a) b).length = k := ⟨_, rfl⟩
  obtain ⟨z0, hz0⟩ : ∃ k : Nat, 0 = k := ⟨_, rfl⟩
  have HRA := Lib.hid hra
  have HRB := Lib.hid hrb
  have HZ0 := Lib.hid hz0
  clear hra hrb hz0
  go_enter Try.func8, Try.ntmps8
  go_wp2_with fail
  refine (jSane_any _).mono ?_
  rintro e w1 ⟨rfl, hb⟩
  replace hA := rw_later hA hb
  replace hBr := rw_later hBr hb
  replace hB := hB.trans (hb.mono hB.size)
  clear hb
  go_wp2_with fail
  refine (dNew_any 40 (Out []) _).mono ?_
  rintro e w2 hh
  obtain ⟨As, cs, Ap, cp, rfl, hD, hb⟩ := RetDk.is hh (InW.nil w1) hS0 (ns := nn) (np := 0) (dl := -1) (ds := false) (Lib.hid ST.out.l0) (Lib.hid rfl) (Lib.hid rfl) (Lib.hid rfl)
  replace hA := rw_later hA hb
  replace hBr := rw_later hBr hb
  replace hB := hB.trans (hb.mono hB.size)
  clear hb
  go_upto_region 4 with fail
  have hb := (Below.refl w2.heap.size w2).alloc (Nat.le_refl _) (.cells #[.slice As nn cs, .slice Ap 0 cp, .int .i64 (-1), .bool false] 25)
  have XD := Box.new w2 [.slice As nn cs, .slice Ap 0 cp, .int .i64 (-1), .bool false] 25
  replace hA := rw_later hA hb
  replace hBr := rw_later hBr hb
  replace hD := dk_later hD hb
  replace hB := hB.trans (hb.mono hB.size)
  clear hb
  generalize w2.alloc (.cells #[.slice As nn cs, .slice Ap 0 cp, .int .i64 (-1), .bool false] 25) = v0 at XD hB  hA hBr hD ⊢
  generalize w2.heap.size = Dd at XD ⊢
  go_cut [43] (fun s43 wx => ∃ t : Bool, s43 = .bool t ∧ Below v0.heap.size v0 wx)
  case first =>
    have hd := (Below.refl v0.heap.size v0).drew
    have zD := XD.lt
    have u0 : ∀ q : Later v0, q.w.cell? ⟨Dd, 0, none⟩ = some (.slice As nn cs) := Later.cell (XD.cell 0) zD
    have u1 : ∀ q : Later v0, q.w.cell? ⟨Dd, 1, none⟩ = some (.slice Ap 0 cp) := Later.cell (XD.cell 1) zD
    have u2 : ∀ q : Later v0, q.w.cell? ⟨Dd, 2, none⟩ = some (.int .i64 (-1)) := Later.cell (XD.cell 2) zD
    have u3 : ∀ q : Later v0, q.w.cell? ⟨Dd, 3, none⟩ = some (.bool false) := Later.cell (XD.cell 3) zD
    refine wp_region_upto (C := fun w' => ∃ x : Later v0, w' = x.w) 9 [0, 1, 2, 3, 5, 7] (by kernel_rfl) (by kernel_rfl) (Later.mk' hd) (fun _ _ h => h) ?_
    simp only [headOps, List.filterMap_cons, List.filterMap_nil, List.getElem?_toArray, List.getElem?_cons_succ, List.getElem?_cons_zero]
    repeat (first | go_big_quiet_skip | (show wpQuiet _ _ _ _ (_ :: _) _; go_big_quiet_skip) | (show wpQuiet _ _ _ _ (_ :: _) _; go_big_quiet_want; go_big_quiet_op; go_big_quiet_on))
    refine wpQuiet_nil ?_
    clear u0 u1 u2 u3
    have ha9 := hA.out.weak (S' := fun k => k < v0.heap.size) (fun k _ hk => hk)
    have hb9 := hBr.out.weak (S' := fun k => k < v0.heap.size) (fun k _ hk => hk)
    have ha8 := ha9.keep (Keeps.of hd)
    have hb8 := hb9.keep (Keeps.of hd)
    generalize v0.drew = Wd at hd ha8 hb8 ⊢
    refine anyG_val (some 36) (n := 5) (i := 4) (v := .slice (some ⟨Wd.heap.size, 0, none⟩) 0 0) (w' := Wd.alloc (.cells #[] 35)) (by kernel_rfl) rfl rfl rfl (fun _ => Later.mk' hd) (by go_simp) ?_
    simp only [Act.put, List.setIfInBounds_toArray, List.set_cons_zero, List.set_cons_succ]
    have hx := (Below.refl Wd.heap.size Wd).alloc (Nat.le_refl _) (.cells #[] 35)
    have h1 := hd.alloc hd.size (.cells #[] 35)
    have O1 := own_made0 Wd hd.size (fun k => k < v0.heap.size)
    have ha7 := ha8.keep (Keeps.of hx)
    have hb7 := hb8.keep (Keeps.of hx)
    generalize Wd.alloc (.cells #[] 35) = W1 at h1 O1 ha7 hb7 ⊢
    generalize Wd.heap.size = F0 at O1 ⊢
    obtain ⟨V2, W2, hr2, O2, hk2⟩ := run_appRows O1 (fun k hk => hk) ha7 h1.size (by have := hab.out; have := hna.out; simp only [List.length_nil]; omega)
    rw [List.nil_append] at O2
    obtain ⟨A2, c2, rfl⟩ := O2.form
    refine anyG_val (some 38) (n := 4) (i := 6) (v := .slice A2 a.length c2) (w' := W2) (by kernel_rfl) rfl rfl rfl (fun _ => Later.mk' h1) (by exact run_app_op rfl rfl rfl rfl hr2) ?_
    simp only [Act.put, List.setIfInBounds_toArray, List.set_cons_zero, List.set_cons_succ]
    have h2 := h1.trans hk2
    have hb6 := hb7.keep (S := fun k => k < v0.heap.size) ⟨hk2.size, fun k hk _ => hk2.block k hk⟩
    obtain ⟨V3, W3, hr3, O3, hk3⟩ := run_appRows O2 (fun k hk => hk) hb6 h2.size (by have := hab.out; have := hna.out; have := hnb.out; omega)
    obtain ⟨A3, c3, rfl⟩ := O3.form
    refine anyG_val (some 40) (n := 3) (i := 8) (v := .slice A3 (a ++ b).length c3) (w' := W3) (by kernel_rfl) rfl rfl rfl (fun _ => Later.mk' h2) (by exact run_app_op rfl rfl rfl rfl hr3) ?_
    simp only [Act.put, List.setIfInBounds_toArray, List.set_cons_zero, List.set_cons_succ]
    have h3 := h2.trans hk3
    have HR3 : Hid (RwAt W3 (Out []) (.slice A3 (a ++ b).length c3) (a ++ b)) := Lib.hid (O3.rows (by have := hab.out; have := hna.out; have := hnb.out; simp only [maxLen, List.length_append]; omega) (fun _ _ _ h => by cases h) (fun _ _ h => by cases h))
    refine anyG_alone (n := 2) (i := 9) (by kernel_rfl) (fun _ => Later.mk' h3) ?_
    refine wpOp_callD (some 41) (by rfl) rfl rfl ?_ ((jFew_at (As := As) (ns := nn) (cs := cs) (Ap := Ap) (np := 0) (cp := cp) (dl := -1) (ds := false) HR3 (Lib.hid rfl)).mono ?_)
    · go_simp
    rintro e W4 hF
    obtain ⟨t, rfl, _, hb⟩ := hF
    refine ⟨_, rfl, ?_⟩
    simp only [Act.put, List.setIfInBounds_toArray, List.set_cons_zero, List.set_cons_succ]
    have h4 := h3.trans (hb.mono h3.size)
    refine anyG_val (some 42) (n := 1) (i := 10) (v := .bool (!t)) (w' := W4) (by kernel_rfl) rfl rfl rfl (fun h => by cases h) (by go_simp) ?_
    simp only [Act.put, List.setIfInBounds_toArray, List.set_cons_zero, List.set_cons_succ]
    refine anyG_val (some 43) (n := 0) (i := 11) (v := .bool (!t)) (w' := W4) (by kernel_rfl) rfl rfl rfl (fun h => by cases h) (by go_simp) ?_
    simp only [Act.put, List.setIfInBounds_toArray, List.set_cons_zero, List.set_cons_succ]
    refine anyG_done (by kernel_rfl) rfl ?_
    dsimp only [Exit.inBlock, Exit.then]
    go_wp2_with fail
    go_meet
    exact ⟨_, rfl, h4⟩
  case rest =>
  obtain ⟨t, rfl, hb⟩ := hcut
  obtain ⟨w5, rfl⟩ : ∃ w5 : World, w5 = wc := ⟨_, rfl⟩
  replace XD := XD.later hb
  replace hA := rw_later hA hb
  replace hBr := rw_later hBr hb
  replace hD := dk_later hD hb
  replace hB := hB.trans (hb.mono hB.size)
  clear hb
  cases t with
  | true =>
    go_wp2
    go_ret
    exact ⟨rfl, hB⟩
  | false =>
  go_upto_region 7 with fail
  obtain ⟨XDc0, XDc1, XDc2, XDc3⟩ := XD.c4
  have XDz := XD.lt
  go_wp2_with fail
  clear XDc0 XDc1 XDc2 XDc3 XDz
  refine (jOpenA (Lx := []) (R := []) (s := z0) (m := z0) (nn := nn) (InW.nil _) (Lib.hid (by rw [← HZ0.out]; exact ST.out.o0)) (Lib.hid HZ0.out) hD).mono ?_
  rintro e w6 ⟨Al, cl, rfl, hR, hb⟩
  replace XD := XD.later hb
  replace hA := rw_later hA hb
  replace hBr := rw_later hBr hb
  replace hD := dk_later hD hb
  replace hB := hB.trans (hb.mono hB.size)
  clear hb
  go_upto_region 8 with fail
  have hb := (Below.refl w6.heap.size w6).alloc (Nat.le_refl _) (.cells #[.slice Al z0 cl, .int .i64 (nn : Int), .int .i64 (z0 : Int)] 29)
  have XL := Box.new w6 [.slice Al z0 cl, .int .i64 (nn : Int), .int .i64 (z0 : Int)] 29
  replace XD := XD.later hb
  replace hA := rw_later hA hb
  replace hBr := rw_later hBr hb
  replace hD := dk_later hD hb
  replace hR := rw_later hR hb
  replace hB := hB.trans (hb.mono hB.size)
  clear hb
  generalize w6.alloc (.cells #[.slice Al z0 cl, .int .i64 (nn : Int), .int .i64 (z0 : Int)] 29) = v1 at XL hB XD hA hBr hD hR ⊢
  generalize w6.heap.size = Ll at XL ⊢
  go_upto_region 10 with fail
  go_cut [10, 11, 12] (fun sa sb sc wx => ∃ (Xa Ya : Nat) (A2 : Option Addr) (c2 : Nat) (S2 : Option Addr) (p2 : Nat) (P2 : Option Addr) (q2 : Nat), sa = .pointer (some ⟨Xa, 0, none⟩) ∧ sb = .pointer (some ⟨Ya, 0, none⟩) ∧ sc = .int .i64 0 ∧ Box wx Xa [.slice A2 rb c2, .int .i64 (nn : Int), .int .i64 (rb : Int)] ∧ Box wx Ya [.slice S2 nn p2, .slice P2 0 q2, .int .i64 (-1), .bool false] ∧ Hid (RwAt wx (Out []) (.slice A2 rb c2) (accT nn (accT nn [] a) b)) ∧ Hid (DkAt wx (Out []) (.slice S2 nn p2) (.slice P2 0 q2) ⟨E1, [], -1, false⟩) ∧ Below v1.heap.size v1 wx)
  case first =>
    have hd := (Below.refl v1.heap.size v1).drew
    have zb0 := XL.lt
    have u00 : ∀ q : Later v1, q.w.cell? ⟨Ll, 0, none⟩ = some (.slice Al z0 cl) := Later.cell (XL.cell 0) zb0
    have u01 : ∀ q : Later v1, q.w.cell? ⟨Ll, 1, none⟩ = some (.int .i64 (nn : Int)) := Later.cell (XL.cell 1) zb0
    have u02 : ∀ q : Later v1, q.w.cell? ⟨Ll, 2, none⟩ = some (.int .i64 (z0 : Int)) := Later.cell (XL.cell 2) zb0
    have zb1 := XD.lt
    have u10 : ∀ q : Later v1, q.w.cell? ⟨Dd, 0, none⟩ = some (.slice As nn cs) := Later.cell (XD.cell 0) zb1
    have u11 : ∀ q : Later v1, q.w.cell? ⟨Dd, 1, none⟩ = some (.slice Ap 0 cp) := Later.cell (XD.cell 1) zb1
    have u12 : ∀ q : Later v1, q.w.cell? ⟨Dd, 2, none⟩ = some (.int .i64 (-1)) := Later.cell (XD.cell 2) zb1
    have u13 : ∀ q : Later v1, q.w.cell? ⟨Dd, 3, none⟩ = some (.bool false) := Later.cell (XD.cell 3) zb1
    refine wp_region_upto (C := fun w' => ∃ x : Later v1, w' = x.w) 17 [0, 1, 2, 3, 5, 7] (by kernel_rfl) (by kernel_rfl) (Later.mk' hd) (fun _ _ h => h) ?_
    simp only [headOps, List.filterMap_cons, List.filterMap_nil, List.getElem?_toArray, List.getElem?_cons_succ, List.getElem?_cons_zero]
    repeat (first | go_big_quiet_skip | (show wpQuiet _ _ _ _ (_ :: _) _; go_big_quiet_skip) | (show wpQuiet _ _ _ _ (_ :: _) _; go_big_quiet_want; go_big_quiet_op; go_big_quiet_on))
    refine wpQuiet_nil ?_
    clear u00 u01 u02 u10 u11 u12 u13 XD XL
    have hAt := rw_later hA hd
    have hBrt := rw_later hBr hd
    have hDt := dk_later hD hd
    have hRt := rw_later hR hd
    generalize v1.drew = Wd at hd hAt hBrt hDt hRt ⊢
    refine gen_any ?_
    intro F hF a0 ha0
    have T4JD : ∀ (A1 : Option Addr) (c1 : Nat) (A9 : Option Addr) (c9 : Nat) (A2 : Option Addr) (c2 : Nat) (S2 : Option Addr) (p2 : Nat) (P2 : Option Addr) (q2 : Nat) (aJ : Nat) (aD : Nat) (V : World), Below v1.heap.size v1 V → InW [aJ, aD] V → Hid (RwAt V (Out [aJ, aD]) (.slice A2 rb c2) (accT nn (accT nn [] a) b)) → Hid (DkAt V (Out [aJ, aD]) (.slice S2 nn p2) (.slice P2 0 q2) ⟨E1, [], -1, false⟩) → v1.heap.size ≤ aJ → Box V aJ [.slice none 0 0, .int .i64 0, .int .i64 0] → v1.heap.size ≤ aD → Box V aD [.slice none 0 0, .slice none 0 0, .int .i64 0, .bool false] → aJ ≠ aD → F 3 #[true, true, true, true, true, true, true, true, true, true, true, true, true, true, true, false, false, false] (((((((((a0.put (some 58) (.agg #[.slice A1 ra c1, .int .i64 (nn : Int), .int .i64 (z0 : Int)])).put (some 60) (.agg #[.slice A9 rb c9, .int .i64 (nn : Int), .int .i64 (z0 : Int)])).put (some 62) (.tuple #[.agg #[.slice A2 rb c2, .int .i64 (nn : Int), .int .i64 (rb : Int)], .agg #[.slice S2 nn p2, .slice P2 0 q2, .int .i64 (-1), .bool false], .int .i64 0])).put (some 53) (.tuple #[.agg #[.slice A2 rb c2, .int .i64 (nn : Int), .int .i64 (rb : Int)], .agg #[.slice S2 nn p2, .slice P2 0 q2, .int .i64 (-1), .bool false], .int .i64 0])).put (some 63) (.agg #[.slice A2 rb c2, .int .i64 (nn : Int), .int .i64 (rb : Int)])).put (some 64) (.agg #[.slice S2 nn p2, .slice P2 0 q2, .int .i64 (-1), .bool false])).put (some 65) (.int .i64 0)).put (some 10) (.pointer (some ⟨aJ, 0, none⟩))).put (some 11) (.pointer (some ⟨aD, 0, none⟩))) V := by
      intro A1 c1 A9 c9 A2 c2 S2 p2 P2 q2 aJ aD V h hL RR DD gJ BJ gD BD hne
      subst hF ha0
      simp only [Act.put, List.setIfInBounds_toArray, List.set_cons_zero, List.set_cons_succ]
      have BJc0 : V.cell? ⟨aJ, 0, none⟩ = some (.slice none 0 0) := BJ.cell 0
      have BJf0 := BJ.free 0
      have BJc1 : V.cell? ⟨aJ, 1, none⟩ = some (.int .i64 0) := BJ.cell 1
      have BJf1 := BJ.free 1
      have BJc2 : V.cell? ⟨aJ, 2, none⟩ = some (.int .i64 0) := BJ.cell 2
      have BJf2 := BJ.free 2
      have BJz := BJ.lt
      refine anyG_store (n := 2) (i := 15) (w' := (((V.setCell ⟨aJ, 0, none⟩ (.slice A2 rb c2)).setCell ⟨aJ, 1, none⟩ (.int .i64 (nn : Int))).setCell ⟨aJ, 2, none⟩ (.int .i64 (rb : Int)))) (by kernel_rfl) rfl rfl rfl (fun _ => Later.mk' h) (by go_simp) ?_
      clear BJc0 BJf0 BJc1 BJf1 BJc2 BJf2 BJz
      have e1 := (((h.setCell (p := ⟨aJ, 0, none⟩) gJ (.slice A2 rb c2)).setCell (p := ⟨aJ, 1, none⟩) gJ (.int .i64 (nn : Int))).setCell (p := ⟨aJ, 2, none⟩) gJ (.int .i64 (rb : Int)))
      replace BD := (((BD.other (a := ⟨aJ, 0, none⟩) (Ne.symm hne) (.slice A2 rb c2)).other (a := ⟨aJ, 1, none⟩) (Ne.symm hne) (.int .i64 (nn : Int))).other (a := ⟨aJ, 2, none⟩) (Ne.symm hne) (.int .i64 (rb : Int)))
      replace BJ := (((BJ.set 0 (.slice A2 rb c2)).set 1 (.int .i64 (nn : Int))).set 2 (.int .i64 (rb : Int)))
      simp only [List.set_cons_succ, List.set_cons_zero] at BJ
      replace RR := (rw_set (a := aJ) (by simp) (rw_set (a := aJ) (by simp) (rw_set (a := aJ) (by simp) RR 0 (.slice A2 rb c2)) 1 (.int .i64 (nn : Int))) 2 (.int .i64 (rb : Int)))
      replace DD := (dk_set (a := aJ) (by simp) (dk_set (a := aJ) (by simp) (dk_set (a := aJ) (by simp) DD 0 (.slice A2 rb c2)) 1 (.int .i64 (nn : Int))) 2 (.int .i64 (rb : Int)))
      generalize (((V.setCell ⟨aJ, 0, none⟩ (.slice A2 rb c2)).setCell ⟨aJ, 1, none⟩ (.int .i64 (nn : Int))).setCell ⟨aJ, 2, none⟩ (.int .i64 (rb : Int))) = q1 at e1 BD BJ RR DD ⊢
      have BDc0 : q1.cell? ⟨aD, 0, none⟩ = some (.slice none 0 0) := BD.cell 0
      have BDf0 := BD.free 0
      have BDc1 : q1.cell? ⟨aD, 1, none⟩ = some (.slice none 0 0) := BD.cell 1
      have BDf1 := BD.free 1
      have BDc2 : q1.cell? ⟨aD, 2, none⟩ = some (.int .i64 0) := BD.cell 2
      have BDf2 := BD.free 2
      have BDc3 : q1.cell? ⟨aD, 3, none⟩ = some (.bool false) := BD.cell 3
      have BDf3 := BD.free 3
      have BDz := BD.lt
      refine anyG_store (n := 1) (i := 16) (w' := ((((q1.setCell ⟨aD, 0, none⟩ (.slice S2 nn p2)).setCell ⟨aD, 1, none⟩ (.slice P2 0 q2)).setCell ⟨aD, 2, none⟩ (.int .i64 (-1))).setCell ⟨aD, 3, none⟩ (.bool false))) (by kernel_rfl) rfl rfl rfl (fun _ => Later.mk' e1) (by go_simp) ?_
      clear BDc0 BDf0 BDc1 BDf1 BDc2 BDf2 BDc3 BDf3 BDz
      have e2 := ((((e1.setCell (p := ⟨aD, 0, none⟩) gD (.slice S2 nn p2)).setCell (p := ⟨aD, 1, none⟩) gD (.slice P2 0 q2)).setCell (p := ⟨aD, 2, none⟩) gD (.int .i64 (-1))).setCell (p := ⟨aD, 3, none⟩) gD (.bool false))
      replace BJ := ((((BJ.other (a := ⟨aD, 0, none⟩) hne (.slice S2 nn p2)).other (a := ⟨aD, 1, none⟩) hne (.slice P2 0 q2)).other (a := ⟨aD, 2, none⟩) hne (.int .i64 (-1))).other (a := ⟨aD, 3, none⟩) hne (.bool false))
      replace BD := ((((BD.set 0 (.slice S2 nn p2)).set 1 (.slice P2 0 q2)).set 2 (.int .i64 (-1))).set 3 (.bool false))
      simp only [List.set_cons_succ, List.set_cons_zero] at BD
      replace RR := (rw_set (a := aD) (by simp) (rw_set (a := aD) (by simp) (rw_set (a := aD) (by simp) (rw_set (a := aD) (by simp) RR 0 (.slice S2 nn p2)) 1 (.slice P2 0 q2)) 2 (.int .i64 (-1))) 3 (.bool false))
      replace DD := (dk_set (a := aD) (by simp) (dk_set (a := aD) (by simp) (dk_set (a := aD) (by simp) (dk_set (a := aD) (by simp) DD 0 (.slice S2 nn p2)) 1 (.slice P2 0 q2)) 2 (.int .i64 (-1))) 3 (.bool false))
      generalize ((((q1.setCell ⟨aD, 0, none⟩ (.slice S2 nn p2)).setCell ⟨aD, 1, none⟩ (.slice P2 0 q2)).setCell ⟨aD, 2, none⟩ (.int .i64 (-1))).setCell ⟨aD, 3, none⟩ (.bool false)) = q2w at e2 BD BJ RR DD ⊢
      refine anyG_val (some 12) (n := 0) (i := 17) (v := .int .i64 0) (w' := q2w) (by kernel_rfl) rfl rfl rfl (fun _ => Later.mk' e2) (by first | rfl | go_simp) ?_
      simp only [Act.put, List.setIfInBounds_toArray, List.set_cons_zero, List.set_cons_succ]
      refine anyG_done (by kernel_rfl) rfl ?_
      dsimp only [Exit.inBlock, Exit.then]
      go_wp2_with fail
      go_meet
      exact ⟨aJ, aD, A2, c2, S2, p2, P2, q2, rfl, rfl, rfl, BJ, BD, rw_all RR, dk_all DD, e2⟩
    have T4J : ∀ (A1 : Option Addr) (c1 : Nat) (A9 : Option Addr) (c9 : Nat) (A2 : Option Addr) (c2 : Nat) (S2 : Option Addr) (p2 : Nat) (P2 : Option Addr) (q2 : Nat) (aJ : Nat) (V : World), Below v1.heap.size v1 V → InW [aJ] V → Hid (RwAt V (Out [aJ]) (.slice A2 rb c2) (accT nn (accT nn [] a) b)) → Hid (DkAt V (Out [aJ]) (.slice S2 nn p2) (.slice P2 0 q2) ⟨E1, [], -1, false⟩) → v1.heap.size ≤ aJ → Box V aJ [.slice none 0 0, .int .i64 0, .int .i64 0] → F 4 #[true, true, true, true, true, true, true, true, true, true, true, true, true, true, false, false, false, false] ((((((((a0.put (some 58) (.agg #[.slice A1 ra c1, .int .i64 (nn : Int), .int .i64 (z0 : Int)])).put (some 60) (.agg #[.slice A9 rb c9, .int .i64 (nn : Int), .int .i64 (z0 : Int)])).put (some 62) (.tuple #[.agg #[.slice A2 rb c2, .int .i64 (nn : Int), .int .i64 (rb : Int)], .agg #[.slice S2 nn p2, .slice P2 0 q2, .int .i64 (-1), .bool false], .int .i64 0])).put (some 53) (.tuple #[.agg #[.slice A2 rb c2, .int .i64 (nn : Int), .int .i64 (rb : Int)], .agg #[.slice S2 nn p2, .slice P2 0 q2, .int .i64 (-1), .bool false], .int .i64 0])).put (some 63) (.agg #[.slice A2 rb c2, .int .i64 (nn : Int), .int .i64 (rb : Int)])).put (some 64) (.agg #[.slice S2 nn p2, .slice P2 0 q2, .int .i64 (-1), .bool false])).put (some 65) (.int .i64 0)).put (some 10) (.pointer (some ⟨aJ, 0, none⟩))) V := by
      intro A1 c1 A9 c9 A2 c2 S2 p2 P2 q2 aJ V h hL RR DD gJ BJ
      subst hF
      refine anyG_alone (n := 3) (i := 14) (by kernel_rfl) (fun _ => Later.mk' h) ?_
      refine wpOp_valD (some 11) (v := .pointer (some ⟨V.heap.size, 0, none⟩)) (w' := V.alloc (.cells #[.slice none 0 0, .slice none 0 0, .int .i64 0, .bool false] 25)) (by rfl) rfl rfl ?_ ?_
      · subst ha0
        try simp only [Act.put, List.setIfInBounds_toArray, List.set_cons_zero, List.set_cons_succ]
        go_simp
      have hst := (Below.refl V.heap.size V).alloc (Nat.le_refl _) (.cells #[.slice none 0 0, .slice none 0 0, .int .i64 0, .bool false] 25)
      have hq := T4JD A1 c1 A9 c9 A2 c2 S2 p2 P2 q2 aJ V.heap.size (V.alloc (.cells #[.slice none 0 0, .slice none 0 0, .int .i64 0, .bool false] 25)) (h.alloc h.size (.cells #[.slice none 0 0, .slice none 0 0, .int .i64 0, .bool false] 25)) (inW_swap ((hL.later hst.size).cons (a := V.heap.size) (by simp))) (rw_swap (rw_later (rw_more (a := V.heap.size) (Nat.le_refl _) RR) hst)) (dk_swap (dk_later (dk_more (a := V.heap.size) (Nat.le_refl _) DD) hst)) gJ (BJ.later hst) h.size (Box.new V [.slice none 0 0, .slice none 0 0, .int .i64 0, .bool false] 25) (Nat.ne_of_lt BJ.lt)
      subst ha0
      simp only [Act.put, List.setIfInBounds_toArray, List.set_cons_zero, List.set_cons_succ] at hq ⊢
      exact hq
    have T4D : ∀ (A1 : Option Addr) (c1 : Nat) (A9 : Option Addr) (c9 : Nat) (A2 : Option Addr) (c2 : Nat) (S2 : Option Addr) (p2 : Nat) (P2 : Option Addr) (q2 : Nat) (aD : Nat) (V : World), Below v1.heap.size v1 V → InW [aD] V → Hid (RwAt V (Out [aD]) (.slice A2 rb c2) (accT nn (accT nn [] a) b)) → Hid (DkAt V (Out [aD]) (.slice S2 nn p2) (.slice P2 0 q2) ⟨E1, [], -1, false⟩) → v1.heap.size ≤ aD → Box V aD [.slice none 0 0, .slice none 0 0, .int .i64 0, .bool false] → F 4 #[true, true, true, true, true, true, true, true, true, true, true, true, true, false, true, false, false, false] ((((((((a0.put (some 58) (.agg #[.slice A1 ra c1, .int .i64 (nn : Int), .int .i64 (z0 : Int)])).put (some 60) (.agg #[.slice A9 rb c9, .int .i64 (nn : Int), .int .i64 (z0 : Int)])).put (some 62) (.tuple #[.agg #[.slice A2 rb c2, .int .i64 (nn : Int), .int .i64 (rb : Int)], .agg #[.slice S2 nn p2, .slice P2 0 q2, .int .i64 (-1), .bool false], .int .i64 0])).put (some 53) (.tuple #[.agg #[.slice A2 rb c2, .int .i64 (nn : Int), .int .i64 (rb : Int)], .agg #[.slice S2 nn p2, .slice P2 0 q2, .int .i64 (-1), .bool false], .int .i64 0])).put (some 63) (.agg #[.slice A2 rb c2, .int .i64 (nn : Int), .int .i64 (rb : Int)])).put (some 64) (.agg #[.slice S2 nn p2, .slice P2 0 q2, .int .i64 (-1), .bool false])).put (some 65) (.int .i64 0)).put (some 11) (.pointer (some ⟨aD, 0, none⟩))) V := by
      intro A1 c1 A9 c9 A2 c2 S2 p2 P2 q2 aD V h hL RR DD gD BD
      subst hF
      refine anyG_alone (n := 3) (i := 13) (by kernel_rfl) (fun _ => Later.mk' h) ?_
      refine wpOp_valD (some 10) (v := .pointer (some ⟨V.heap.size, 0, none⟩)) (w' := V.alloc (.cells #[.slice none 0 0, .int .i64 0, .int .i64 0] 29)) (by rfl) rfl rfl ?_ ?_
      · subst ha0
        try simp only [Act.put, List.setIfInBounds_toArray, List.set_cons_zero, List.set_cons_succ]
        go_simp
      have hst := (Below.refl V.heap.size V).alloc (Nat.le_refl _) (.cells #[.slice none 0 0, .int .i64 0, .int .i64 0] 29)
      have hq := T4JD A1 c1 A9 c9 A2 c2 S2 p2 P2 q2 V.heap.size aD (V.alloc (.cells #[.slice none 0 0, .int .i64 0, .int .i64 0] 29)) (h.alloc h.size (.cells #[.slice none 0 0, .int .i64 0, .int .i64 0] 29)) ((hL.later hst.size).cons (a := V.heap.size) (by simp)) (rw_later (rw_more (a := V.heap.size) (Nat.le_refl _) RR) hst) (dk_later (dk_more (a := V.heap.size) (Nat.le_refl _) DD) hst) h.size (Box.new V [.slice none 0 0, .int .i64 0, .int .i64 0] 29) gD (BD.later hst) (Nat.ne_of_gt BD.lt)
      subst ha0
      simp only [Act.put, List.setIfInBounds_toArray, List.set_cons_zero, List.set_cons_succ] at hq ⊢
      exact hq
    have T4O : ∀ (A1 : Option Addr) (c1 : Nat) (A9 : Option Addr) (c9 : Nat) (A2 : Option Addr) (c2 : Nat) (S2 : Option Addr) (p2 : Nat) (P2 : Option Addr) (q2 : Nat) (V : World), Below v1.heap.size v1 V → InW [] V → Hid (RwAt V (Out []) (.slice A2 rb c2) (accT nn (accT nn [] a) b)) → Hid (DkAt V (Out []) (.slice S2 nn p2) (.slice P2 0 q2) ⟨E1, [], -1, false⟩) → F 5 #[true, true, true, true, true, true, true, true, true, true, true, true, true, false, false, false, false, false] (((((((a0.put (some 58) (.agg #[.slice A1 ra c1, .int .i64 (nn : Int), .int .i64 (z0 : Int)])).put (some 60) (.agg #[.slice A9 rb c9, .int .i64 (nn : Int), .int .i64 (z0 : Int)])).put (some 62) (.tuple #[.agg #[.slice A2 rb c2, .int .i64 (nn : Int), .int .i64 (rb : Int)], .agg #[.slice S2 nn p2, .slice P2 0 q2, .int .i64 (-1), .bool false], .int .i64 0])).put (some 53) (.tuple #[.agg #[.slice A2 rb c2, .int .i64 (nn : Int), .int .i64 (rb : Int)], .agg #[.slice S2 nn p2, .slice P2 0 q2, .int .i64 (-1), .bool false], .int .i64 0])).put (some 63) (.agg #[.slice A2 rb c2, .int .i64 (nn : Int), .int .i64 (rb : Int)])).put (some 64) (.agg #[.slice S2 nn p2, .slice P2 0 q2, .int .i64 (-1), .bool false])).put (some 65) (.int .i64 0)) V := by
      intro A1 c1 A9 c9 A2 c2 S2 p2 P2 q2 V h hL RR DD
      subst hF
      refine anyG_two (n := 4) (i := 13) (j := 14) (by kernel_rfl) (fun _ => Later.mk' h) ?_ ?_
      · skip
        refine wpOp_valD (some 10) (v := .pointer (some ⟨V.heap.size, 0, none⟩)) (w' := V.alloc (.cells #[.slice none 0 0, .int .i64 0, .int .i64 0] 29)) (by rfl) rfl rfl ?_ ?_
        · subst ha0
          try simp only [Act.put, List.setIfInBounds_toArray, List.set_cons_zero, List.set_cons_succ]
          go_simp
        have hst := (Below.refl V.heap.size V).alloc (Nat.le_refl _) (.cells #[.slice none 0 0, .int .i64 0, .int .i64 0] 29)
        have hq := T4J A1 c1 A9 c9 A2 c2 S2 p2 P2 q2 V.heap.size (V.alloc (.cells #[.slice none 0 0, .int .i64 0, .int .i64 0] 29)) (h.alloc h.size (.cells #[.slice none 0 0, .int .i64 0, .int .i64 0] 29)) ((hL.later hst.size).cons (a := V.heap.size) (by simp)) (rw_later (rw_more (a := V.heap.size) (Nat.le_refl _) RR) hst) (dk_later (dk_more (a := V.heap.size) (Nat.le_refl _) DD) hst) h.size (Box.new V [.slice none 0 0, .int .i64 0, .int .i64 0] 29)
        subst ha0
        simp only [Act.put, List.setIfInBounds_toArray, List.set_cons_zero, List.set_cons_succ] at hq ⊢
        exact hq
      · skip
        refine wpOp_valD (some 11) (v := .pointer (some ⟨V.heap.size, 0, none⟩)) (w' := V.alloc (.cells #[.slice none 0 0, .slice none 0 0, .int .i64 0, .bool false] 25)) (by rfl) rfl rfl ?_ ?_
        · subst ha0
          try simp only [Act.put, List.setIfInBounds_toArray, List.set_cons_zero, List.set_cons_succ]
          go_simp
        have hst := (Below.refl V.heap.size V).alloc (Nat.le_refl _) (.cells #[.slice none 0 0, .slice none 0 0, .int .i64 0, .bool false] 25)
        have hq := T4D A1 c1 A9 c9 A2 c2 S2 p2 P2 q2 V.heap.size (V.alloc (.cells #[.slice none 0 0, .slice none 0 0, .int .i64 0, .bool false] 25)) (h.alloc h.size (.cells #[.slice none 0 0, .slice none 0 0, .int .i64 0, .bool false] 25)) ((hL.later hst.size).cons (a := V.heap.size) (by simp)) (rw_later (rw_more (a := V.heap.size) (Nat.le_refl _) RR) hst) (dk_later (dk_more (a := V.heap.size) (Nat.le_refl _) DD) hst) h.size (Box.new V [.slice none 0 0, .slice none 0 0, .int .i64 0, .bool false] 25)
        subst ha0
        simp only [Act.put, List.setIfInBounds_toArray, List.set_cons_zero, List.set_cons_succ] at hq ⊢
        exact hq
    have T3JD : ∀ (A1 : Option Addr) (c1 : Nat) (A9 : Option Addr) (c9 : Nat) (A2 : Option Addr) (c2 : Nat) (S2 : Option Addr) (p2 : Nat) (P2 : Option Addr) (q2 : Nat) (aJ : Nat) (aD : Nat) (V : World), Below v1.heap.size v1 V → InW [aJ, aD] V → Hid (RwAt V (Out [aJ, aD]) (.slice A2 rb c2) (accT nn (accT nn [] a) b)) → Hid (DkAt V (Out [aJ, aD]) (.slice S2 nn p2) (.slice P2 0 q2) ⟨E1, [], -1, false⟩) → v1.heap.size ≤ aJ → Box V aJ [.slice none 0 0, .int .i64 0, .int .i64 0] → v1.heap.size ≤ aD → Box V aD [.slice none 0 0, .slice none 0 0, .int .i64 0, .bool false] → aJ ≠ aD → F 7 #[true, true, true, true, true, true, true, true, true, false, false, false, false, true, true, false, false, false] (((((a0.put (some 58) (.agg #[.slice A1 ra c1, .int .i64 (nn : Int), .int .i64 (z0 : Int)])).put (some 60) (.agg #[.slice A9 rb c9, .int .i64 (nn : Int), .int .i64 (z0 : Int)])).put (some 62) (.tuple #[.agg #[.slice A2 rb c2, .int .i64 (nn : Int), .int .i64 (rb : Int)], .agg #[.slice S2 nn p2, .slice P2 0 q2, .int .i64 (-1), .bool false], .int .i64 0])).put (some 10) (.pointer (some ⟨aJ, 0, none⟩))).put (some 11) (.pointer (some ⟨aD, 0, none⟩))) V := by
      intro A1 c1 A9 c9 A2 c2 S2 p2 P2 q2 aJ aD V h hL RR DD gJ BJ gD BD hne
      subst hF
      subst ha0
      simp only [Act.put, List.setIfInBounds_toArray, List.set_cons_zero, List.set_cons_succ]
      refine anyG_pures (by kernel_rfl) 3 V [9, 10, 11, 12] _ _ ?_ (fun _ => Later.mk' h) (by kernel_rfl) (by kernel_rfl) ?_
      · exact closed_of (by kernel_rfl)
      simp only [headOps, List.filterMap_cons, List.filterMap_nil, List.getElem?_toArray, List.getElem?_cons_succ, List.getElem?_cons_zero]
      repeat (first | go_big_quiet_skip | (show wpQuiet _ _ _ _ (_ :: _) _; go_big_quiet_skip) | (show wpQuiet _ _ _ _ (_ :: _) _; go_big_quiet_want; go_big_quiet_op; go_big_quiet_on))
      refine wpQuiet_nil ?_
      have hq := T4JD A1 c1 A9 c9 A2 c2 S2 p2 P2 q2 aJ aD V h hL RR DD gJ BJ gD BD hne
      simp only [Act.put, List.setIfInBounds_toArray, List.set_cons_zero, List.set_cons_succ] at hq
      exact hq
    have T3J : ∀ (A1 : Option Addr) (c1 : Nat) (A9 : Option Addr) (c9 : Nat) (A2 : Option Addr) (c2 : Nat) (S2 : Option Addr) (p2 : Nat) (P2 : Option Addr) (q2 : Nat) (aJ : Nat) (V : World), Below v1.heap.size v1 V → InW [aJ] V → Hid (RwAt V (Out [aJ]) (.slice A2 rb c2) (accT nn (accT nn [] a) b)) → Hid (DkAt V (Out [aJ]) (.slice S2 nn p2) (.slice P2 0 q2) ⟨E1, [], -1, false⟩) → v1.heap.size ≤ aJ → Box V aJ [.slice none 0 0, .int .i64 0, .int .i64 0] → F 8 #[true, true, true, true, true, true, true, true, true, false, false, false, false, true, false, false, false, false] ((((a0.put (some 58) (.agg #[.slice A1 ra c1, .int .i64 (nn : Int), .int .i64 (z0 : Int)])).put (some 60) (.agg #[.slice A9 rb c9, .int .i64 (nn : Int), .int .i64 (z0 : Int)])).put (some 62) (.tuple #[.agg #[.slice A2 rb c2, .int .i64 (nn : Int), .int .i64 (rb : Int)], .agg #[.slice S2 nn p2, .slice P2 0 q2, .int .i64 (-1), .bool false], .int .i64 0])).put (some 10) (.pointer (some ⟨aJ, 0, none⟩))) V := by
      intro A1 c1 A9 c9 A2 c2 S2 p2 P2 q2 aJ V h hL RR DD gJ BJ
      subst hF
      subst ha0
      simp only [Act.put, List.setIfInBounds_toArray, List.set_cons_zero, List.set_cons_succ]
      refine anyG_pures (by kernel_rfl) 4 V [9, 10, 11, 12] _ _ ?_ (fun _ => Later.mk' h) (by kernel_rfl) (by kernel_rfl) ?_
      · exact closed_of (by kernel_rfl)
      simp only [headOps, List.filterMap_cons, List.filterMap_nil, List.getElem?_toArray, List.getElem?_cons_succ, List.getElem?_cons_zero]
      repeat (first | go_big_quiet_skip | (show wpQuiet _ _ _ _ (_ :: _) _; go_big_quiet_skip) | (show wpQuiet _ _ _ _ (_ :: _) _; go_big_quiet_want; go_big_quiet_op; go_big_quiet_on))
      refine wpQuiet_nil ?_
      have hq := T4J A1 c1 A9 c9 A2 c2 S2 p2 P2 q2 aJ V h hL RR DD gJ BJ
      simp only [Act.put, List.setIfInBounds_toArray, List.set_cons_zero, List.set_cons_succ] at hq
      exact hq
    have T3D : ∀ (A1 : Option Addr) (c1 : Nat) (A9 : Option Addr) (c9 : Nat) (A2 : Option Addr) (c2 : Nat) (S2 : Option Addr) (p2 : Nat) (P2 : Option Addr) (q2 : Nat) (aD : Nat) (V : World), Below v1.heap.size v1 V → InW [aD] V → Hid (RwAt V (Out [aD]) (.slice A2 rb c2) (accT nn (accT nn [] a) b)) → Hid (DkAt V (Out [aD]) (.slice S2 nn p2) (.slice P2 0 q2) ⟨E1, [], -1, false⟩) → v1.heap.size ≤ aD → Box V aD [.slice none 0 0, .slice none 0 0, .int .i64 0, .bool false] → F 8 #[true, true, true, true, true, true, true, true, true, false, false, false, false, false, true, false, false, false] ((((a0.put (some 58) (.agg #[.slice A1 ra c1, .int .i64 (nn : Int), .int .i64 (z0 : Int)])).put (some 60) (.agg #[.slice A9 rb c9, .int .i64 (nn : Int), .int .i64 (z0 : Int)])).put (some 62) (.tuple #[.agg #[.slice A2 rb c2, .int .i64 (nn : Int), .int .i64 (rb : Int)], .agg #[.slice S2 nn p2, .slice P2 0 q2, .int .i64 (-1), .bool false], .int .i64 0])).put (some 11) (.pointer (some ⟨aD, 0, none⟩))) V := by
      intro A1 c1 A9 c9 A2 c2 S2 p2 P2 q2 aD V h hL RR DD gD BD
      subst hF
      subst ha0
      simp only [Act.put, List.setIfInBounds_toArray, List.set_cons_zero, List.set_cons_succ]
      refine anyG_pures (by kernel_rfl) 4 V [9, 10, 11, 12] _ _ ?_ (fun _ => Later.mk' h) (by kernel_rfl) (by kernel_rfl) ?_
      · exact closed_of (by kernel_rfl)
      simp only [headOps, List.filterMap_cons, List.filterMap_nil, List.getElem?_toArray, List.getElem?_cons_succ, List.getElem?_cons_zero]
      repeat (first | go_big_quiet_skip | (show wpQuiet _ _ _ _ (_ :: _) _; go_big_quiet_skip) | (show wpQuiet _ _ _ _ (_ :: _) _; go_big_quiet_want; go_big_quiet_op; go_big_quiet_on))
      refine wpQuiet_nil ?_
      have hq := T4D A1 c1 A9 c9 A2 c2 S2 p2 P2 q2 aD V h hL RR DD gD BD
      simp only [Act.put, List.setIfInBounds_toArray, List.set_cons_zero, List.set_cons_succ] at hq
      exact hq
    have T3O : ∀ (A1 : Option Addr) (c1 : Nat) (A9 : Option Addr) (c9 : Nat) (A2 : Option Addr) (c2 : Nat) (S2 : Option Addr) (p2 : Nat) (P2 : Option Addr) (q2 : Nat) (V : World), Below v1.heap.size v1 V → InW [] V → Hid (RwAt V (Out []) (.slice A2 rb c2) (accT nn (accT nn [] a) b)) → Hid (DkAt V (Out []) (.slice S2 nn p2) (.slice P2 0 q2) ⟨E1, [], -1, false⟩) → F 9 #[true, true, true, true, true, true, true, true, true, false, false, false, false, false, false, false, false, false] (((a0.put (some 58) (.agg #[.slice A1 ra c1, .int .i64 (nn : Int), .int .i64 (z0 : Int)])).put (some 60) (.agg #[.slice A9 rb c9, .int .i64 (nn : Int), .int .i64 (z0 : Int)])).put (some 62) (.tuple #[.agg #[.slice A2 rb c2, .int .i64 (nn : Int), .int .i64 (rb : Int)], .agg #[.slice S2 nn p2, .slice P2 0 q2, .int .i64 (-1), .bool false], .int .i64 0])) V := by
      intro A1 c1 A9 c9 A2 c2 S2 p2 P2 q2 V h hL RR DD
      subst hF
      subst ha0
      simp only [Act.put, List.setIfInBounds_toArray, List.set_cons_zero, List.set_cons_succ]
      refine anyG_pures (by kernel_rfl) 5 V [9, 10, 11, 12] _ _ ?_ (fun _ => Later.mk' h) (by kernel_rfl) (by kernel_rfl) ?_
      · exact closed_of (by kernel_rfl)
      simp only [headOps, List.filterMap_cons, List.filterMap_nil, List.getElem?_toArray, List.getElem?_cons_succ, List.getElem?_cons_zero]
      repeat (first | go_big_quiet_skip | (show wpQuiet _ _ _ _ (_ :: _) _; go_big_quiet_skip) | (show wpQuiet _ _ _ _ (_ :: _) _; go_big_quiet_want; go_big_quiet_op; go_big_quiet_on))
      refine wpQuiet_nil ?_
      have hq := T4O A1 c1 A9 c9 A2 c2 S2 p2 P2 q2 V h hL RR DD
      simp only [Act.put, List.setIfInBounds_toArray, List.set_cons_zero, List.set_cons_succ] at hq
      exact hq
    have T2JD : ∀ (A1 : Option Addr) (c1 : Nat) (A9 : Option Addr) (c9 : Nat) (aJ : Nat) (aD : Nat) (V : World), Below v1.heap.size v1 V → InW [aJ, aD] V → Hid (DkAt V (Out [aJ, aD]) (.slice As nn cs) (.slice Ap 0 cp) ⟨E0, [], -1, false⟩) → Hid (RwAt V (Out [aJ, aD]) (.slice A9 rb c9) (accT nn (accT nn [] a) b)) → v1.heap.size ≤ aJ → Box V aJ [.slice none 0 0, .int .i64 0, .int .i64 0] → v1.heap.size ≤ aD → Box V aD [.slice none 0 0, .slice none 0 0, .int .i64 0, .bool false] → aJ ≠ aD → F 8 #[true, true, true, true, true, true, true, true, false, false, false, false, false, true, true, false, false, false] ((((a0.put (some 58) (.agg #[.slice A1 ra c1, .int .i64 (nn : Int), .int .i64 (z0 : Int)])).put (some 60) (.agg #[.slice A9 rb c9, .int .i64 (nn : Int), .int .i64 (z0 : Int)])).put (some 10) (.pointer (some ⟨aJ, 0, none⟩))).put (some 11) (.pointer (some ⟨aD, 0, none⟩))) V := by
      intro A1 c1 A9 c9 aJ aD V h hL hD R9 gJ BJ gD BD hne
      subst hF
      refine anyG_alone (n := 7) (i := 8) (by kernel_rfl) (fun _ => Later.mk' h) ?_
      refine wpOp_callD (some 62) (by rfl) rfl rfl ?_ ((jSyncA (s := z0) hL (Lib.hid (by rw [← HZ0.out]; exact ST.out.k2)) HRB (Lib.hid (by rw [← HZ0.out]; exact ST.out.y1)) (Lib.hid ST.out.l0) (Lib.hid ST.out.l1) R9 hD).mono ?_)
      · subst ha0
        try simp only [Act.put, List.setIfInBounds_toArray, List.set_cons_zero, List.set_cons_succ]
        go_simp
      rintro e V2 ⟨A2, c2, S2, p2, P2, q2, rfl, RR, DD, hb⟩
      refine ⟨_, rfl, ?_⟩
      have hq := T3JD A1 c1 A9 c9 A2 c2 S2 p2 P2 q2 aJ aD V2 (h.trans (hb.mono h.size)) (hL.later hb.size) RR DD gJ (BJ.later hb) gD (BD.later hb) hne
      subst ha0
      simp only [Act.put, List.setIfInBounds_toArray, List.set_cons_zero, List.set_cons_succ] at hq ⊢
      exact hq
    have T2J : ∀ (A1 : Option Addr) (c1 : Nat) (A9 : Option Addr) (c9 : Nat) (aJ : Nat) (V : World), Below v1.heap.size v1 V → InW [aJ] V → Hid (DkAt V (Out [aJ]) (.slice As nn cs) (.slice Ap 0 cp) ⟨E0, [], -1, false⟩) → Hid (RwAt V (Out [aJ]) (.slice A9 rb c9) (accT nn (accT nn [] a) b)) → v1.heap.size ≤ aJ → Box V aJ [.slice none 0 0, .int .i64 0, .int .i64 0] → F 9 #[true, true, true, true, true, true, true, true, false, false, false, false, false, true, false, false, false, false] (((a0.put (some 58) (.agg #[.slice A1 ra c1, .int .i64 (nn : Int), .int .i64 (z0 : Int)])).put (some 60) (.agg #[.slice A9 rb c9, .int .i64 (nn : Int), .int .i64 (z0 : Int)])).put (some 10) (.pointer (some ⟨aJ, 0, none⟩))) V := by
      intro A1 c1 A9 c9 aJ V h hL hD R9 gJ BJ
      subst hF
      refine anyG_two (n := 8) (i := 8) (j := 14) (by kernel_rfl) (fun _ => Later.mk' h) ?_ ?_
      · skip
        refine wpOp_callD (some 62) (by rfl) rfl rfl ?_ ((jSyncA (s := z0) hL (Lib.hid (by rw [← HZ0.out]; exact ST.out.k2)) HRB (Lib.hid (by rw [← HZ0.out]; exact ST.out.y1)) (Lib.hid ST.out.l0) (Lib.hid ST.out.l1) R9 hD).mono ?_)
        · subst ha0
          try simp only [Act.put, List.setIfInBounds_toArray, List.set_cons_zero, List.set_cons_succ]
          go_simp
        rintro e V2 ⟨A2, c2, S2, p2, P2, q2, rfl, RR, DD, hb⟩
        refine ⟨_, rfl, ?_⟩
        have hq := T3J A1 c1 A9 c9 A2 c2 S2 p2 P2 q2 aJ V2 (h.trans (hb.mono h.size)) (hL.later hb.size) RR DD gJ (BJ.later hb)
        subst ha0
        simp only [Act.put, List.setIfInBounds_toArray, List.set_cons_zero, List.set_cons_succ] at hq ⊢
        exact hq
      · skip
        refine wpOp_valD (some 11) (v := .pointer (some ⟨V.heap.size, 0, none⟩)) (w' := V.alloc (.cells #[.slice none 0 0, .slice none 0 0, .int .i64 0, .bool false] 25)) (by rfl) rfl rfl ?_ ?_
        · subst ha0
          try simp only [Act.put, List.setIfInBounds_toArray, List.set_cons_zero, List.set_cons_succ]
          go_simp
        have hst := (Below.refl V.heap.size V).alloc (Nat.le_refl _) (.cells #[.slice none 0 0, .slice none 0 0, .int .i64 0, .bool false] 25)
        have hq := T2JD A1 c1 A9 c9 aJ V.heap.size (V.alloc (.cells #[.slice none 0 0, .slice none 0 0, .int .i64 0, .bool false] 25)) (h.alloc h.size (.cells #[.slice none 0 0, .slice none 0 0, .int .i64 0, .bool false] 25)) (inW_swap ((hL.later hst.size).cons (a := V.heap.size) (by simp))) (dk_swap (dk_later (dk_more (a := V.heap.size) (Nat.le_refl _) hD) hst)) (rw_swap (rw_later (rw_more (a := V.heap.size) (Nat.le_refl _) R9) hst)) gJ (BJ.later hst) h.size (Box.new V [.slice none 0 0, .slice none 0 0, .int .i64 0, .bool false] 25) (Nat.ne_of_lt BJ.lt)
        subst ha0
        simp only [Act.put, List.setIfInBounds_toArray, List.set_cons_zero, List.set_cons_succ] at hq ⊢
        exact hq
    have T2D : ∀ (A1 : Option Addr) (c1 : Nat) (A9 : Option Addr) (c9 : Nat) (aD : Nat) (V : World), Below v1.heap.size v1 V → InW [aD] V → Hid (DkAt V (Out [aD]) (.slice As nn cs) (.slice Ap 0 cp) ⟨E0, [], -1, false⟩) → Hid (RwAt V (Out [aD]) (.slice A9 rb c9) (accT nn (accT nn [] a) b)) → v1.heap.size ≤ aD → Box V aD [.slice none 0 0, .slice none 0 0, .int .i64 0, .bool false] → F 9 #[true, true, true, true, true, true, true, true, false, false, false, false, false, false, true, false, false, false] (((a0.put (some 58) (.agg #[.slice A1 ra c1, .int .i64 (nn : Int), .int .i64 (z0 : Int)])).put (some 60) (.agg #[.slice A9 rb c9, .int .i64 (nn : Int), .int .i64 (z0 : Int)])).put (some 11) (.pointer (some ⟨aD, 0, none⟩))) V := by
      intro A1 c1 A9 c9 aD V h hL hD R9 gD BD
      subst hF
      refine anyG_two (n := 8) (i := 8) (j := 13) (by kernel_rfl) (fun _ => Later.mk' h) ?_ ?_
      · skip
        refine wpOp_callD (some 62) (by rfl) rfl rfl ?_ ((jSyncA (s := z0) hL (Lib.hid (by rw [← HZ0.out]; exact ST.out.k2)) HRB (Lib.hid (by rw [← HZ0.out]; exact ST.out.y1)) (Lib.hid ST.out.l0) (Lib.hid ST.out.l1) R9 hD).mono ?_)
        · subst ha0
          try simp only [Act.put, List.setIfInBounds_toArray, List.set_cons_zero, List.set_cons_succ]
          go_simp
        rintro e V2 ⟨A2, c2, S2, p2, P2, q2, rfl, RR, DD, hb⟩
        refine ⟨_, rfl, ?_⟩
        have hq := T3D A1 c1 A9 c9 A2 c2 S2 p2 P2 q2 aD V2 (h.trans (hb.mono h.size)) (hL.later hb.size) RR DD gD (BD.later hb)
        subst ha0
        simp only [Act.put, List.setIfInBounds_toArray, List.set_cons_zero, List.set_cons_succ] at hq ⊢
        exact hq
      · skip
        refine wpOp_valD (some 10) (v := .pointer (some ⟨V.heap.size, 0, none⟩)) (w' := V.alloc (.cells #[.slice none 0 0, .int .i64 0, .int .i64 0] 29)) (by rfl) rfl rfl ?_ ?_
        · subst ha0
          try simp only [Act.put, List.setIfInBounds_toArray, List.set_cons_zero, List.set_cons_succ]
          go_simp
        have hst := (Below.refl V.heap.size V).alloc (Nat.le_refl _) (.cells #[.slice none 0 0, .int .i64 0, .int .i64 0] 29)
        have hq := T2JD A1 c1 A9 c9 V.heap.size aD (V.alloc (.cells #[.slice none 0 0, .int .i64 0, .int .i64 0] 29)) (h.alloc h.size (.cells #[.slice none 0 0, .int .i64 0, .int .i64 0] 29)) ((hL.later hst.size).cons (a := V.heap.size) (by simp)) (dk_later (dk_more (a := V.heap.size) (Nat.le_refl _) hD) hst) (rw_later (rw_more (a := V.heap.size) (Nat.le_refl _) R9) hst) h.size (Box.new V [.slice none 0 0, .int .i64 0, .int .i64 0] 29) gD (BD.later hst) (Nat.ne_of_gt BD.lt)
        subst ha0
        simp only [Act.put, List.setIfInBounds_toArray, List.set_cons_zero, List.set_cons_succ] at hq ⊢
        exact hq
    have T2O : ∀ (A1 : Option Addr) (c1 : Nat) (A9 : Option Addr) (c9 : Nat) (V : World), Below v1.heap.size v1 V → InW [] V → Hid (DkAt V (Out []) (.slice As nn cs) (.slice Ap 0 cp) ⟨E0, [], -1, false⟩) → Hid (RwAt V (Out []) (.slice A9 rb c9) (accT nn (accT nn [] a) b)) → F 10 #[true, true, true, true, true, true, true, true, false, false, false, false, false, false, false, false, false, false] ((a0.put (some 58) (.agg #[.slice A1 ra c1, .int .i64 (nn : Int), .int .i64 (z0 : Int)])).put (some 60) (.agg #[.slice A9 rb c9, .int .i64 (nn : Int), .int .i64 (z0 : Int)])) V := by
      intro A1 c1 A9 c9 V h hL hD R9
      subst hF
      refine anyG_three (n := 9) (i := 8) (j := 13) (l := 14) (by kernel_rfl) (fun _ => Later.mk' h) ?_ ?_ ?_
      · skip
        refine wpOp_callD (some 62) (by rfl) rfl rfl ?_ ((jSyncA (s := z0) hL (Lib.hid (by rw [← HZ0.out]; exact ST.out.k2)) HRB (Lib.hid (by rw [← HZ0.out]; exact ST.out.y1)) (Lib.hid ST.out.l0) (Lib.hid ST.out.l1) R9 hD).mono ?_)
        · subst ha0
          try simp only [Act.put, List.setIfInBounds_toArray, List.set_cons_zero, List.set_cons_succ]
          go_simp
        rintro e V2 ⟨A2, c2, S2, p2, P2, q2, rfl, RR, DD, hb⟩
        refine ⟨_, rfl, ?_⟩
        have hq := T3O A1 c1 A9 c9 A2 c2 S2 p2 P2 q2 V2 (h.trans (hb.mono h.size)) (hL.later hb.size) RR DD
        subst ha0
        simp only [Act.put, List.setIfInBounds_toArray, List.set_cons_zero, List.set_cons_succ] at hq ⊢
        exact hq
      · skip
        refine wpOp_valD (some 10) (v := .pointer (some ⟨V.heap.size, 0, none⟩)) (w' := V.alloc (.cells #[.slice none 0 0, .int .i64 0, .int .i64 0] 29)) (by rfl) rfl rfl ?_ ?_
        · subst ha0
          try simp only [Act.put, List.setIfInBounds_toArray, List.set_cons_zero, List.set_cons_succ]
          go_simp
        have hst := (Below.refl V.heap.size V).alloc (Nat.le_refl _) (.cells #[.slice none 0 0, .int .i64 0, .int .i64 0] 29)
        have hq := T2J A1 c1 A9 c9 V.heap.size (V.alloc (.cells #[.slice none 0 0, .int .i64 0, .int .i64 0] 29)) (h.alloc h.size (.cells #[.slice none 0 0, .int .i64 0, .int .i64 0] 29)) ((hL.later hst.size).cons (a := V.heap.size) (by simp)) (dk_later (dk_more (a := V.heap.size) (Nat.le_refl _) hD) hst) (rw_later (rw_more (a := V.heap.size) (Nat.le_refl _) R9) hst) h.size (Box.new V [.slice none 0 0, .int .i64 0, .int .i64 0] 29)
        subst ha0
        simp only [Act.put, List.setIfInBounds_toArray, List.set_cons_zero, List.set_cons_succ] at hq ⊢
        exact hq
      · skip
        refine wpOp_valD (some 11) (v := .pointer (some ⟨V.heap.size, 0, none⟩)) (w' := V.alloc (.cells #[.slice none 0 0, .slice none 0 0, .int .i64 0, .bool false] 25)) (by rfl) rfl rfl ?_ ?_
        · subst ha0
          try simp only [Act.put, List.setIfInBounds_toArray, List.set_cons_zero, List.set_cons_succ]
          go_simp
        have hst := (Below.refl V.heap.size V).alloc (Nat.le_refl _) (.cells #[.slice none 0 0, .slice none 0 0, .int .i64 0, .bool false] 25)
        have hq := T2D A1 c1 A9 c9 V.heap.size (V.alloc (.cells #[.slice none 0 0, .slice none 0 0, .int .i64 0, .bool false] 25)) (h.alloc h.size (.cells #[.slice none 0 0, .slice none 0 0, .int .i64 0, .bool false] 25)) ((hL.later hst.size).cons (a := V.heap.size) (by simp)) (dk_later (dk_more (a := V.heap.size) (Nat.le_refl _) hD) hst) (rw_later (rw_more (a := V.heap.size) (Nat.le_refl _) R9) hst) h.size (Box.new V [.slice none 0 0, .slice none 0 0, .int .i64 0, .bool false] 25)
        subst ha0
        simp only [Act.put, List.setIfInBounds_toArray, List.set_cons_zero, List.set_cons_succ] at hq ⊢
        exact hq
    have T1JD : ∀ (A1 : Option Addr) (c1 : Nat) (aJ : Nat) (aD : Nat) (V : World), Below v1.heap.size v1 V → InW [aJ, aD] V → Hid (RwAt V (Out [aJ, aD]) (.slice Ab nb cb) b) → Hid (DkAt V (Out [aJ, aD]) (.slice As nn cs) (.slice Ap 0 cp) ⟨E0, [], -1, false⟩) → Hid (RwAt V (Out [aJ, aD]) (.slice A1 ra c1) (accT nn [] a)) → v1.heap.size ≤ aJ → Box V aJ [.slice none 0 0, .int .i64 0, .int .i64 0] → v1.heap.size ≤ aD → Box V aD [.slice none 0 0, .slice none 0 0, .int .i64 0, .bool false] → aJ ≠ aD → F 9 #[true, true, true, true, true, true, false, true, false, false, false, false, false, true, true, false, false, false] (((a0.put (some 58) (.agg #[.slice A1 ra c1, .int .i64 (nn : Int), .int .i64 (z0 : Int)])).put (some 10) (.pointer (some ⟨aJ, 0, none⟩))).put (some 11) (.pointer (some ⟨aD, 0, none⟩))) V := by
      intro A1 c1 aJ aD V h hL hBr hD R1 gJ BJ gD BD hne
      subst hF
      refine anyG_alone (n := 8) (i := 6) (by kernel_rfl) (fun _ => Later.mk' h) ?_
      refine wpOp_callD (some 60) (by rfl) rfl rfl ?_ ((jAddA (s := z0) hL (Lib.hid (by rw [← HZ0.out]; exact ST.out.k1)) HRA R1 hBr hnb hlb HRB).mono ?_)
      · subst ha0
        try simp only [Act.put, List.setIfInBounds_toArray, List.set_cons_zero, List.set_cons_succ]
        go_simp
      rintro e V2 ⟨A9, c9, rfl, R9, hb⟩
      refine ⟨_, rfl, ?_⟩
      have hq := T2JD A1 c1 A9 c9 aJ aD V2 (h.trans (hb.mono h.size)) (hL.later hb.size) (dk_later hD hb) R9 gJ (BJ.later hb) gD (BD.later hb) hne
      subst ha0
      simp only [Act.put, List.setIfInBounds_toArray, List.set_cons_zero, List.set_cons_succ] at hq ⊢
      exact hq
    have T1J : ∀ (A1 : Option Addr) (c1 : Nat) (aJ : Nat) (V : World), Below v1.heap.size v1 V → InW [aJ] V → Hid (RwAt V (Out [aJ]) (.slice Ab nb cb) b) → Hid (DkAt V (Out [aJ]) (.slice As nn cs) (.slice Ap 0 cp) ⟨E0, [], -1, false⟩) → Hid (RwAt V (Out [aJ]) (.slice A1 ra c1) (accT nn [] a)) → v1.heap.size ≤ aJ → Box V aJ [.slice none 0 0, .int .i64 0, .int .i64 0] → F 10 #[true, true, true, true, true, true, false, true, false, false, false, false, false, true, false, false, false, false] ((a0.put (some 58) (.agg #[.slice A1 ra c1, .int .i64 (nn : Int), .int .i64 (z0 : Int)])).put (some 10) (.pointer (some ⟨aJ, 0, none⟩))) V := by
      intro A1 c1 aJ V h hL hBr hD R1 gJ BJ
      subst hF
      refine anyG_two (n := 9) (i := 6) (j := 14) (by kernel_rfl) (fun _ => Later.mk' h) ?_ ?_
      · skip
        refine wpOp_callD (some 60) (by rfl) rfl rfl ?_ ((jAddA (s := z0) hL (Lib.hid (by rw [← HZ0.out]; exact ST.out.k1)) HRA R1 hBr hnb hlb HRB).mono ?_)
        · subst ha0
          try simp only [Act.put, List.setIfInBounds_toArray, List.set_cons_zero, List.set_cons_succ]
          go_simp
        rintro e V2 ⟨A9, c9, rfl, R9, hb⟩
        refine ⟨_, rfl, ?_⟩
        have hq := T2J A1 c1 A9 c9 aJ V2 (h.trans (hb.mono h.size)) (hL.later hb.size) (dk_later hD hb) R9 gJ (BJ.later hb)
        subst ha0
        simp only [Act.put, List.setIfInBounds_toArray, List.set_cons_zero, List.set_cons_succ] at hq ⊢
        exact hq
      · skip
        refine wpOp_valD (some 11) (v := .pointer (some ⟨V.heap.size, 0, none⟩)) (w' := V.alloc (.cells #[.slice none 0 0, .slice none 0 0, .int .i64 0, .bool false] 25)) (by rfl) rfl rfl ?_ ?_
        · subst ha0
          try simp only [Act.put, List.setIfInBounds_toArray, List.set_cons_zero, List.set_cons_succ]
          go_simp
        have hst := (Below.refl V.heap.size V).alloc (Nat.le_refl _) (.cells #[.slice none 0 0, .slice none 0 0, .int .i64 0, .bool false] 25)
        have hq := T1JD A1 c1 aJ V.heap.size (V.alloc (.cells #[.slice none 0 0, .slice none 0 0, .int .i64 0, .bool false] 25)) (h.alloc h.size (.cells #[.slice none 0 0, .slice none 0 0, .int .i64 0, .bool false] 25)) (inW_swap ((hL.later hst.size).cons (a := V.heap.size) (by simp))) (rw_swap (rw_later (rw_more (a := V.heap.size) (Nat.le_refl _) hBr) hst)) (dk_swap (dk_later (dk_more (a := V.heap.size) (Nat.le_refl _) hD) hst)) (rw_swap (rw_later (rw_more (a := V.heap.size) (Nat.le_refl _) R1) hst)) gJ (BJ.later hst) h.size (Box.new V [.slice none 0 0, .slice none 0 0, .int .i64 0, .bool false] 25) (Nat.ne_of_lt BJ.lt)
        subst ha0
        simp only [Act.put, List.setIfInBounds_toArray, List.set_cons_zero, List.set_cons_succ] at hq ⊢
        exact hq
    have T1D : ∀ (A1 : Option Addr) (c1 : Nat) (aD : Nat) (V : World), Below v1.heap.size v1 V → InW [aD] V → Hid (RwAt V (Out [aD]) (.slice Ab nb cb) b) → Hid (DkAt V (Out [aD]) (.slice As nn cs) (.slice Ap 0 cp) ⟨E0, [], -1, false⟩) → Hid (RwAt V (Out [aD]) (.slice A1 ra c1) (accT nn [] a)) → v1.heap.size ≤ aD → Box V aD [.slice none 0 0, .slice none 0 0, .int .i64 0, .bool false] → F 10 #[true, true, true, true, true, true, false, true, false, false, false, false, false, false, true, false, false, false] ((a0.put (some 58) (.agg #[.slice A1 ra c1, .int .i64 (nn : Int), .int .i64 (z0 : Int)])).put (some 11) (.pointer (some ⟨aD, 0, none⟩))) V := by
      intro A1 c1 aD V h hL hBr hD R1 gD BD
      subst hF
      refine anyG_two (n := 9) (i := 6) (j := 13) (by kernel_rfl) (fun _ => Later.mk' h) ?_ ?_
      · skip
        refine wpOp_callD (some 60) (by rfl) rfl rfl ?_ ((jAddA (s := z0) hL (Lib.hid (by rw [← HZ0.out]; exact ST.out.k1)) HRA R1 hBr hnb hlb HRB).mono ?_)
        · subst ha0
          try simp only [Act.put, List.setIfInBounds_toArray, List.set_cons_zero, List.set_cons_succ]
          go_simp
        rintro e V2 ⟨A9, c9, rfl, R9, hb⟩
        refine ⟨_, rfl, ?_⟩
        have hq := T2D A1 c1 A9 c9 aD V2 (h.trans (hb.mono h.size)) (hL.later hb.size) (dk_later hD hb) R9 gD (BD.later hb)
        subst ha0
        simp only [Act.put, List.setIfInBounds_toArray, List.set_cons_zero, List.set_cons_succ] at hq ⊢
        exact hq
      · skip
        refine wpOp_valD (some 10) (v := .pointer (some ⟨V.heap.size, 0, none⟩)) (w' := V.alloc (.cells #[.slice none 0 0, .int .i64 0, .int .i64 0] 29)) (by rfl) rfl rfl ?_ ?_
        · subst ha0
          try simp only [Act.put, List.setIfInBounds_toArray, List.set_cons_zero, List.set_cons_succ]
          go_simp
        have hst := (Below.refl V.heap.size V).alloc (Nat.le_refl _) (.cells #[.slice none 0 0, .int .i64 0, .int .i64 0] 29)
        have hq := T1JD A1 c1 V.heap.size aD (V.alloc (.cells #[.slice none 0 0, .int .i64 0, .int .i64 0] 29)) (h.alloc h.size (.cells #[.slice none 0 0, .int .i64 0, .int .i64 0] 29)) ((hL.later hst.size).cons (a := V.heap.size) (by simp)) (rw_later (rw_more (a := V.heap.size) (Nat.le_refl _) hBr) hst) (dk_later (dk_more (a := V.heap.size) (Nat.le_refl _) hD) hst) (rw_later (rw_more (a := V.heap.size) (Nat.le_refl _) R1) hst) h.size (Box.new V [.slice none 0 0, .int .i64 0, .int .i64 0] 29) gD (BD.later hst) (Nat.ne_of_gt BD.lt)
        subst ha0
        simp only [Act.put, List.setIfInBounds_toArray, List.set_cons_zero, List.set_cons_succ] at hq ⊢
        exact hq
    have T1O : ∀ (A1 : Option Addr) (c1 : Nat) (V : World), Below v1.heap.size v1 V → InW [] V → Hid (RwAt V (Out []) (.slice Ab nb cb) b) → Hid (DkAt V (Out []) (.slice As nn cs) (.slice Ap 0 cp) ⟨E0, [], -1, false⟩) → Hid (RwAt V (Out []) (.slice A1 ra c1) (accT nn [] a)) → F 11 #[true, true, true, true, true, true, false, true, false, false, false, false, false, false, false, false, false, false] (a0.put (some 58) (.agg #[.slice A1 ra c1, .int .i64 (nn : Int), .int .i64 (z0 : Int)])) V := by
      intro A1 c1 V h hL hBr hD R1
      subst hF
      refine anyG_three (n := 10) (i := 6) (j := 13) (l := 14) (by kernel_rfl) (fun _ => Later.mk' h) ?_ ?_ ?_
      · skip
        refine wpOp_callD (some 60) (by rfl) rfl rfl ?_ ((jAddA (s := z0) hL (Lib.hid (by rw [← HZ0.out]; exact ST.out.k1)) HRA R1 hBr hnb hlb HRB).mono ?_)
        · subst ha0
          try simp only [Act.put, List.setIfInBounds_toArray, List.set_cons_zero, List.set_cons_succ]
          go_simp
        rintro e V2 ⟨A9, c9, rfl, R9, hb⟩
        refine ⟨_, rfl, ?_⟩
        have hq := T2O A1 c1 A9 c9 V2 (h.trans (hb.mono h.size)) (hL.later hb.size) (dk_later hD hb) R9
        subst ha0
        simp only [Act.put, List.setIfInBounds_toArray, List.set_cons_zero, List.set_cons_succ] at hq ⊢
        exact hq
      · skip
        refine wpOp_valD (some 10) (v := .pointer (some ⟨V.heap.size, 0, none⟩)) (w' := V.alloc (.cells #[.slice none 0 0, .int .i64 0, .int .i64 0] 29)) (by rfl) rfl rfl ?_ ?_
        · subst ha0
          try simp only [Act.put, List.setIfInBounds_toArray, List.set_cons_zero, List.set_cons_succ]
          go_simp
        have hst := (Below.refl V.heap.size V).alloc (Nat.le_refl _) (.cells #[.slice none 0 0, .int .i64 0, .int .i64 0] 29)
        have hq := T1J A1 c1 V.heap.size (V.alloc (.cells #[.slice none 0 0, .int .i64 0, .int .i64 0] 29)) (h.alloc h.size (.cells #[.slice none 0 0, .int .i64 0, .int .i64 0] 29)) ((hL.later hst.size).cons (a := V.heap.size) (by simp)) (rw_later (rw_more (a := V.heap.size) (Nat.le_refl _) hBr) hst) (dk_later (dk_more (a := V.heap.size) (Nat.le_refl _) hD) hst) (rw_later (rw_more (a := V.heap.size) (Nat.le_refl _) R1) hst) h.size (Box.new V [.slice none 0 0, .int .i64 0, .int .i64 0] 29)
        subst ha0
        simp only [Act.put, List.setIfInBounds_toArray, List.set_cons_zero, List.set_cons_succ] at hq ⊢
        exact hq
      · skip
        refine wpOp_valD (some 11) (v := .pointer (some ⟨V.heap.size, 0, none⟩)) (w' := V.alloc (.cells #[.slice none 0 0, .slice none 0 0, .int .i64 0, .bool false] 25)) (by rfl) rfl rfl ?_ ?_
        · subst ha0
          try simp only [Act.put, List.setIfInBounds_toArray, List.set_cons_zero, List.set_cons_succ]
          go_simp
        have hst := (Below.refl V.heap.size V).alloc (Nat.le_refl _) (.cells #[.slice none 0 0, .slice none 0 0, .int .i64 0, .bool false] 25)
        have hq := T1D A1 c1 V.heap.size (V.alloc (.cells #[.slice none 0 0, .slice none 0 0, .int .i64 0, .bool false] 25)) (h.alloc h.size (.cells #[.slice none 0 0, .slice none 0 0, .int .i64 0, .bool false] 25)) ((hL.later hst.size).cons (a := V.heap.size) (by simp)) (rw_later (rw_more (a := V.heap.size) (Nat.le_refl _) hBr) hst) (dk_later (dk_more (a := V.heap.size) (Nat.le_refl _) hD) hst) (rw_later (rw_more (a := V.heap.size) (Nat.le_refl _) R1) hst) h.size (Box.new V [.slice none 0 0, .slice none 0 0, .int .i64 0, .bool false] 25)
        subst ha0
        simp only [Act.put, List.setIfInBounds_toArray, List.set_cons_zero, List.set_cons_succ] at hq ⊢
        exact hq
    have T0JD : ∀ (aJ : Nat) (aD : Nat) (V : World), Below v1.heap.size v1 V → InW [aJ, aD] V → Hid (RwAt V (Out [aJ, aD]) (.slice Aa na ca) a) → Hid (RwAt V (Out [aJ, aD]) (.slice Ab nb cb) b) → Hid (DkAt V (Out [aJ, aD]) (.slice As nn cs) (.slice Ap 0 cp) ⟨E0, [], -1, false⟩) → Hid (RwAt V (Out [aJ, aD]) (.slice Al z0 cl) []) → v1.heap.size ≤ aJ → Box V aJ [.slice none 0 0, .int .i64 0, .int .i64 0] → v1.heap.size ≤ aD → Box V aD [.slice none 0 0, .slice none 0 0, .int .i64 0, .bool false] → aJ ≠ aD → F 10 #[true, true, true, true, false, true, false, true, false, false, false, false, false, true, true, false, false, false] ((a0.put (some 10) (.pointer (some ⟨aJ, 0, none⟩))).put (some 11) (.pointer (some ⟨aD, 0, none⟩))) V := by
      intro aJ aD V h hL hA hBr hD hR gJ BJ gD BD hne
      subst hF
      refine anyG_alone (n := 9) (i := 4) (by kernel_rfl) (fun _ => Later.mk' h) ?_
      refine wpOp_callD (some 58) (by rfl) rfl rfl ?_ ((jAddA (R := []) (s := z0) hL (Lib.hid (by rw [← HZ0.out]; exact ST.out.k0)) (Lib.hid HZ0.out) hR hA hna hla HRA).mono ?_)
      · subst ha0
        try simp only [Act.put, List.setIfInBounds_toArray, List.set_cons_zero, List.set_cons_succ]
        go_simp
      rintro e V2 ⟨A1, c1, rfl, R1, hb⟩
      refine ⟨_, rfl, ?_⟩
      have hq := T1JD A1 c1 aJ aD V2 (h.trans (hb.mono h.size)) (hL.later hb.size) (rw_later hBr hb) (dk_later hD hb) R1 gJ (BJ.later hb) gD (BD.later hb) hne
      subst ha0
      simp only [Act.put, List.setIfInBounds_toArray, List.set_cons_zero, List.set_cons_succ] at hq ⊢
      exact hq
    have T0J : ∀ (aJ : Nat) (V : World), Below v1.heap.size v1 V → InW [aJ] V → Hid (RwAt V (Out [aJ]) (.slice Aa na ca) a) → Hid (RwAt V (Out [aJ]) (.slice Ab nb cb) b) → Hid (DkAt V (Out [aJ]) (.slice As nn cs) (.slice Ap 0 cp) ⟨E0, [], -1, false⟩) → Hid (RwAt V (Out [aJ]) (.slice Al z0 cl) []) → v1.heap.size ≤ aJ → Box V aJ [.slice none 0 0, .int .i64 0, .int .i64 0] → F 11 #[true, true, true, true, false, true, false, true, false, false, false, false, false, true, false, false, false, false] (a0.put (some 10) (.pointer (some ⟨aJ, 0, none⟩))) V := by
      intro aJ V h hL hA hBr hD hR gJ BJ
      subst hF
      refine anyG_two (n := 10) (i := 4) (j := 14) (by kernel_rfl) (fun _ => Later.mk' h) ?_ ?_
      · skip
        refine wpOp_callD (some 58) (by rfl) rfl rfl ?_ ((jAddA (R := []) (s := z0) hL (Lib.hid (by rw [← HZ0.out]; exact ST.out.k0)) (Lib.hid HZ0.out) hR hA hna hla HRA).mono ?_)
        · subst ha0
          try simp only [Act.put, List.setIfInBounds_toArray, List.set_cons_zero, List.set_cons_succ]
          go_simp
        rintro e V2 ⟨A1, c1, rfl, R1, hb⟩
        refine ⟨_, rfl, ?_⟩
        have hq := T1J A1 c1 aJ V2 (h.trans (hb.mono h.size)) (hL.later hb.size) (rw_later hBr hb) (dk_later hD hb) R1 gJ (BJ.later hb)
        subst ha0
        simp only [Act.put, List.setIfInBounds_toArray, List.set_cons_zero, List.set_cons_succ] at hq ⊢
        exact hq
      · skip
        refine wpOp_valD (some 11) (v := .pointer (some ⟨V.heap.size, 0, none⟩)) (w' := V.alloc (.cells #[.slice none 0 0, .slice none 0 0, .int .i64 0, .bool false] 25)) (by rfl) rfl rfl ?_ ?_
        · subst ha0
          try simp only [Act.put, List.setIfInBounds_toArray, List.set_cons_zero, List.set_cons_succ]
          go_simp
        have hst := (Below.refl V.heap.size V).alloc (Nat.le_refl _) (.cells #[.slice none 0 0, .slice none 0 0, .int .i64 0, .bool false] 25)
        have hq := T0JD aJ V.heap.size (V.alloc (.cells #[.slice none 0 0, .slice none 0 0, .int .i64 0, .bool false] 25)) (h.alloc h.size (.cells #[.slice none 0 0, .slice none 0 0, .int .i64 0, .bool false] 25)) (inW_swap ((hL.later hst.size).cons (a := V.heap.size) (by simp))) (rw_swap (rw_later (rw_more (a := V.heap.size) (Nat.le_refl _) hA) hst)) (rw_swap (rw_later (rw_more (a := V.heap.size) (Nat.le_refl _) hBr) hst)) (dk_swap (dk_later (dk_more (a := V.heap.size) (Nat.le_refl _) hD) hst)) (rw_swap (rw_later (rw_more (a := V.heap.size) (Nat.le_refl _) hR) hst)) gJ (BJ.later hst) h.size (Box.new V [.slice none 0 0, .slice none 0 0, .int .i64 0, .bool false] 25) (Nat.ne_of_lt BJ.lt)
        subst ha0
        simp only [Act.put, List.setIfInBounds_toArray, List.set_cons_zero, List.set_cons_succ] at hq ⊢
        exact hq
    have T0D : ∀ (aD : Nat) (V : World), Below v1.heap.size v1 V → InW [aD] V → Hid (RwAt V (Out [aD]) (.slice Aa na ca) a) → Hid (RwAt V (Out [aD]) (.slice Ab nb cb) b) → Hid (DkAt V (Out [aD]) (.slice As nn cs) (.slice Ap 0 cp) ⟨E0, [], -1, false⟩) → Hid (RwAt V (Out [aD]) (.slice Al z0 cl) []) → v1.heap.size ≤ aD → Box V aD [.slice none 0 0, .slice none 0 0, .int .i64 0, .bool false] → F 11 #[true, true, true, true, false, true, false, true, false, false, false, false, false, false, true, false, false, false] (a0.put (some 11) (.pointer (some ⟨aD, 0, none⟩))) V := by
      intro aD V h hL hA hBr hD hR gD BD
      subst hF
      refine anyG_two (n := 10) (i := 4) (j := 13) (by kernel_rfl) (fun _ => Later.mk' h) ?_ ?_
      · skip
        refine wpOp_callD (some 58) (by rfl) rfl rfl ?_ ((jAddA (R := []) (s := z0) hL (Lib.hid (by rw [← HZ0.out]; exact ST.out.k0)) (Lib.hid HZ0.out) hR hA hna hla HRA).mono ?_)
        · subst ha0
          try simp only [Act.put, List.setIfInBounds_toArray, List.set_cons_zero, List.set_cons_succ]
          go_simp
        rintro e V2 ⟨A1, c1, rfl, R1, hb⟩
        refine ⟨_, rfl, ?_⟩
        have hq := T1D A1 c1 aD V2 (h.trans (hb.mono h.size)) (hL.later hb.size) (rw_later hBr hb) (dk_later hD hb) R1 gD (BD.later hb)
        subst ha0
        simp only [Act.put, List.setIfInBounds_toArray, List.set_cons_zero, List.set_cons_succ] at hq ⊢
        exact hq
      · skip
        refine wpOp_valD (some 10) (v := .pointer (some ⟨V.heap.size, 0, none⟩)) (w' := V.alloc (.cells #[.slice none 0 0, .int .i64 0, .int .i64 0] 29)) (by rfl) rfl rfl ?_ ?_
        · subst ha0
          try simp only [Act.put, List.setIfInBounds_toArray, List.set_cons_zero, List.set_cons_succ]
          go_simp
        have hst := (Below.refl V.heap.size V).alloc (Nat.le_refl _) (.cells #[.slice none 0 0, .int .i64 0, .int .i64 0] 29)
        have hq := T0JD V.heap.size aD (V.alloc (.cells #[.slice none 0 0, .int .i64 0, .int .i64 0] 29)) (h.alloc h.size (.cells #[.slice none 0 0, .int .i64 0, .int .i64 0] 29)) ((hL.later hst.size).cons (a := V.heap.size) (by simp)) (rw_later (rw_more (a := V.heap.size) (Nat.le_refl _) hA) hst) (rw_later (rw_more (a := V.heap.size) (Nat.le_refl _) hBr) hst) (dk_later (dk_more (a := V.heap.size) (Nat.le_refl _) hD) hst) (rw_later (rw_more (a := V.heap.size) (Nat.le_refl _) hR) hst) h.size (Box.new V [.slice none 0 0, .int .i64 0, .int .i64 0] 29) gD (BD.later hst) (Nat.ne_of_gt BD.lt)
        subst ha0
        simp only [Act.put, List.setIfInBounds_toArray, List.set_cons_zero, List.set_cons_succ] at hq ⊢
        exact hq
    have T0O : ∀ (V : World), Below v1.heap.size v1 V → InW [] V → Hid (RwAt V (Out []) (.slice Aa na ca) a) → Hid (RwAt V (Out []) (.slice Ab nb cb) b) → Hid (DkAt V (Out []) (.slice As nn cs) (.slice Ap 0 cp) ⟨E0, [], -1, false⟩) → Hid (RwAt V (Out []) (.slice Al z0 cl) []) → F 12 #[true, true, true, true, false, true, false, true, false, false, false, false, false, false, false, false, false, false] a0 V := by
      intro V h hL hA hBr hD hR
      subst hF
      refine anyG_three (n := 11) (i := 4) (j := 13) (l := 14) (by kernel_rfl) (fun _ => Later.mk' h) ?_ ?_ ?_
      · skip
        refine wpOp_callD (some 58) (by rfl) rfl rfl ?_ ((jAddA (R := []) (s := z0) hL (Lib.hid (by rw [← HZ0.out]; exact ST.out.k0)) (Lib.hid HZ0.out) hR hA hna hla HRA).mono ?_)
        · subst ha0
          try simp only [Act.put, List.setIfInBounds_toArray, List.set_cons_zero, List.set_cons_succ]
          go_simp
        rintro e V2 ⟨A1, c1, rfl, R1, hb⟩
        refine ⟨_, rfl, ?_⟩
        have hq := T1O A1 c1 V2 (h.trans (hb.mono h.size)) (hL.later hb.size) (rw_later hBr hb) (dk_later hD hb) R1
        subst ha0
        simp only [Act.put, List.setIfInBounds_toArray, List.set_cons_zero, List.set_cons_succ] at hq ⊢
        exact hq
      · skip
        refine wpOp_valD (some 10) (v := .pointer (some ⟨V.heap.size, 0, none⟩)) (w' := V.alloc (.cells #[.slice none 0 0, .int .i64 0, .int .i64 0] 29)) (by rfl) rfl rfl ?_ ?_
        · subst ha0
          try simp only [Act.put, List.setIfInBounds_toArray, List.set_cons_zero, List.set_cons_succ]
          go_simp
        have hst := (Below.refl V.heap.size V).alloc (Nat.le_refl _) (.cells #[.slice none 0 0, .int .i64 0, .int .i64 0] 29)
        have hq := T0J V.heap.size (V.alloc (.cells #[.slice none 0 0, .int .i64 0, .int .i64 0] 29)) (h.alloc h.size (.cells #[.slice none 0 0, .int .i64 0, .int .i64 0] 29)) ((hL.later hst.size).cons (a := V.heap.size) (by simp)) (rw_later (rw_more (a := V.heap.size) (Nat.le_refl _) hA) hst) (rw_later (rw_more (a := V.heap.size) (Nat.le_refl _) hBr) hst) (dk_later (dk_more (a := V.heap.size) (Nat.le_refl _) hD) hst) (rw_later (rw_more (a := V.heap.size) (Nat.le_refl _) hR) hst) h.size (Box.new V [.slice none 0 0, .int .i64 0, .int .i64 0] 29)
        subst ha0
        simp only [Act.put, List.setIfInBounds_toArray, List.set_cons_zero, List.set_cons_succ] at hq ⊢
        exact hq
      · skip
        refine wpOp_valD (some 11) (v := .pointer (some ⟨V.heap.size, 0, none⟩)) (w' := V.alloc (.cells #[.slice none 0 0, .slice none 0 0, .int .i64 0, .bool false] 25)) (by rfl) rfl rfl ?_ ?_
        · subst ha0
          try simp only [Act.put, List.setIfInBounds_toArray, List.set_cons_zero, List.set_cons_succ]
          go_simp
        have hst := (Below.refl V.heap.size V).alloc (Nat.le_refl _) (.cells #[.slice none 0 0, .slice none 0 0, .int .i64 0, .bool false] 25)
        have hq := T0D V.heap.size (V.alloc (.cells #[.slice none 0 0, .slice none 0 0, .int .i64 0, .bool false] 25)) (h.alloc h.size (.cells #[.slice none 0 0, .slice none 0 0, .int .i64 0, .bool false] 25)) ((hL.later hst.size).cons (a := V.heap.size) (by simp)) (rw_later (rw_more (a := V.heap.size) (Nat.le_refl _) hA) hst) (rw_later (rw_more (a := V.heap.size) (Nat.le_refl _) hBr) hst) (dk_later (dk_more (a := V.heap.size) (Nat.le_refl _) hD) hst) (rw_later (rw_more (a := V.heap.size) (Nat.le_refl _) hR) hst) h.size (Box.new V [.slice none 0 0, .slice none 0 0, .int .i64 0, .bool false] 25)
        subst ha0
        simp only [Act.put, List.setIfInBounds_toArray, List.set_cons_zero, List.set_cons_succ] at hq ⊢
        exact hq
    have hl : headsL [0, 1, 2, 3, 5, 7] (Array.replicate 18 false) = #[true, true, true, true, false, true, false, true, false, false, false, false, false, false, false, false, false, false] := by kernel_rfl
    first | rw [hl] | skip
    exact T0O Wd hd (InW.nil Wd) hAt hBrt hDt hRt
  case rest =>
  obtain ⟨Bb, Cc, Ab2, cb2, Sc, pc, Pc, qc, rfl, rfl, rfl, XB, XC, RB1, DC, hb⟩ := hcut
  obtain ⟨x10, rfl⟩ : ∃ x : World, x = wc := ⟨_, rfl⟩
  replace XD := XD.later hb
  replace XL := XL.later hb
  replace hA := rw_later hA hb
  replace hBr := rw_later hBr hb
  replace hD := dk_later hD hb
  replace hR := rw_later hR hb
  replace hB := hB.trans (hb.mono hB.size)
  clear hb
  go_upto_region 11 with fail
  go_cut [13, 14, 15] (fun sa sb sc wx => ∃ (Xa Ya : Nat) (A2 : Option Addr) (c2 : Nat) (S2 : Option Addr) (p2 : Nat) (P2 : Option Addr) (q2 : Nat), sa = .pointer (some ⟨Xa, 0, none⟩) ∧ sb = .pointer (some ⟨Ya, 0, none⟩) ∧ sc = .int .i64 0 ∧ Box wx Xa [.slice A2 ra c2, .int .i64 (nn : Int), .int .i64 (ra : Int)] ∧ Box wx Ya [.slice S2 nn p2, .slice P2 0 q2, .int .i64 (-1), .bool false] ∧ Hid (RwAt wx (Out []) (.slice A2 ra c2) (accT nn [] a)) ∧ Hid (DkAt wx (Out []) (.slice S2 nn p2) (.slice P2 0 q2) ⟨E2, [], -1, false⟩) ∧ Below x10.heap.size x10 wx)
  case first =>
    have hd := (Below.refl x10.heap.size x10).drew
    have zb0 := XL.lt
    have u00 : ∀ q : Later x10, q.w.cell? ⟨Ll, 0, none⟩ = some (.slice Al z0 cl) := Later.cell (XL.cell 0) zb0
    have u01 : ∀ q : Later x10, q.w.cell? ⟨Ll, 1, none⟩ = some (.int .i64 (nn : Int)) := Later.cell (XL.cell 1) zb0
    have u02 : ∀ q : Later x10, q.w.cell? ⟨Ll, 2, none⟩ = some (.int .i64 (z0 : Int)) := Later.cell (XL.cell 2) zb0
    have zb1 := XD.lt
    have u10 : ∀ q : Later x10, q.w.cell? ⟨Dd, 0, none⟩ = some (.slice As nn cs) := Later.cell (XD.cell 0) zb1
    have u11 : ∀ q : Later x10, q.w.cell? ⟨Dd, 1, none⟩ = some (.slice Ap 0 cp) := Later.cell (XD.cell 1) zb1
    have u12 : ∀ q : Later x10, q.w.cell? ⟨Dd, 2, none⟩ = some (.int .i64 (-1)) := Later.cell (XD.cell 2) zb1
    have u13 : ∀ q : Later x10, q.w.cell? ⟨Dd, 3, none⟩ = some (.bool false) := Later.cell (XD.cell 3) zb1
    refine wp_region_upto (C := fun w' => ∃ x : Later x10, w' = x.w) 14 [0, 1, 2, 4] (by kernel_rfl) (by kernel_rfl) (Later.mk' hd) (fun _ _ h => h) ?_
    simp only [headOps, List.filterMap_cons, List.filterMap_nil, List.getElem?_toArray, List.getElem?_cons_succ, List.getElem?_cons_zero]
    repeat (first | go_big_quiet_skip | (show wpQuiet _ _ _ _ (_ :: _) _; go_big_quiet_skip) | (show wpQuiet _ _ _ _ (_ :: _) _; go_big_quiet_want; go_big_quiet_op; go_big_quiet_on))
    refine wpQuiet_nil ?_
    clear u00 u01 u02 u10 u11 u12 u13 XD XL XB XC
    have hAt := rw_later hA hd
    have hDt := dk_later hD hd
    have hRt := rw_later hR hd
    generalize x10.drew = Wd at hd hAt hDt hRt ⊢
    refine gen_any ?_
    intro F hF a0 ha0
    have T3JD : ∀ (A1 : Option Addr) (c1 : Nat) (A2 : Option Addr) (c2 : Nat) (S2 : Option Addr) (p2 : Nat) (P2 : Option Addr) (q2 : Nat) (aJ : Nat) (aD : Nat) (V : World), Below x10.heap.size x10 V → InW [aJ, aD] V → Hid (RwAt V (Out [aJ, aD]) (.slice A2 ra c2) (accT nn [] a)) → Hid (DkAt V (Out [aJ, aD]) (.slice S2 nn p2) (.slice P2 0 q2) ⟨E2, [], -1, false⟩) → x10.heap.size ≤ aJ → Box V aJ [.slice none 0 0, .int .i64 0, .int .i64 0] → x10.heap.size ≤ aD → Box V aD [.slice none 0 0, .slice none 0 0, .int .i64 0, .bool false] → aJ ≠ aD → F 3 #[true, true, true, true, true, true, true, true, true, true, true, true, false, false, false] ((((((((a0.put (some 70) (.agg #[.slice A1 ra c1, .int .i64 (nn : Int), .int .i64 (z0 : Int)])).put (some 72) (.tuple #[.agg #[.slice A2 ra c2, .int .i64 (nn : Int), .int .i64 (ra : Int)], .agg #[.slice S2 nn p2, .slice P2 0 q2, .int .i64 (-1), .bool false], .int .i64 0])).put (some 66) (.tuple #[.agg #[.slice A2 ra c2, .int .i64 (nn : Int), .int .i64 (ra : Int)], .agg #[.slice S2 nn p2, .slice P2 0 q2, .int .i64 (-1), .bool false], .int .i64 0])).put (some 73) (.agg #[.slice A2 ra c2, .int .i64 (nn : Int), .int .i64 (ra : Int)])).put (some 74) (.agg #[.slice S2 nn p2, .slice P2 0 q2, .int .i64 (-1), .bool false])).put (some 75) (.int .i64 0)).put (some 13) (.pointer (some ⟨aJ, 0, none⟩))).put (some 14) (.pointer (some ⟨aD, 0, none⟩))) V := by
      intro A1 c1 A2 c2 S2 p2 P2 q2 aJ aD V h hL RR DD gJ BJ gD BD hne
      subst hF ha0
      simp only [Act.put, List.setIfInBounds_toArray, List.set_cons_zero, List.set_cons_succ]
      have BJc0 : V.cell? ⟨aJ, 0, none⟩ = some (.slice none 0 0) := BJ.cell 0
      have BJf0 := BJ.free 0
      have BJc1 : V.cell? ⟨aJ, 1, none⟩ = some (.int .i64 0) := BJ.cell 1
      have BJf1 := BJ.free 1
      have BJc2 : V.cell? ⟨aJ, 2, none⟩ = some (.int .i64 0) := BJ.cell 2
      have BJf2 := BJ.free 2
      have BJz := BJ.lt
      refine anyG_store (n := 2) (i := 12) (w' := (((V.setCell ⟨aJ, 0, none⟩ (.slice A2 ra c2)).setCell ⟨aJ, 1, none⟩ (.int .i64 (nn : Int))).setCell ⟨aJ, 2, none⟩ (.int .i64 (ra : Int)))) (by kernel_rfl) rfl rfl rfl (fun _ => Later.mk' h) (by go_simp) ?_
      clear BJc0 BJf0 BJc1 BJf1 BJc2 BJf2 BJz
      have e1 := (((h.setCell (p := ⟨aJ, 0, none⟩) gJ (.slice A2 ra c2)).setCell (p := ⟨aJ, 1, none⟩) gJ (.int .i64 (nn : Int))).setCell (p := ⟨aJ, 2, none⟩) gJ (.int .i64 (ra : Int)))
      replace BD := (((BD.other (a := ⟨aJ, 0, none⟩) (Ne.symm hne) (.slice A2 ra c2)).other (a := ⟨aJ, 1, none⟩) (Ne.symm hne) (.int .i64 (nn : Int))).other (a := ⟨aJ, 2, none⟩) (Ne.symm hne) (.int .i64 (ra : Int)))
      replace BJ := (((BJ.set 0 (.slice A2 ra c2)).set 1 (.int .i64 (nn : Int))).set 2 (.int .i64 (ra : Int)))
      simp only [List.set_cons_succ, List.set_cons_zero] at BJ
      replace RR := (rw_set (a := aJ) (by simp) (rw_set (a := aJ) (by simp) (rw_set (a := aJ) (by simp) RR 0 (.slice A2 ra c2)) 1 (.int .i64 (nn : Int))) 2 (.int .i64 (ra : Int)))
      replace DD := (dk_set (a := aJ) (by simp) (dk_set (a := aJ) (by simp) (dk_set (a := aJ) (by simp) DD 0 (.slice A2 ra c2)) 1 (.int .i64 (nn : Int))) 2 (.int .i64 (ra : Int)))
      generalize (((V.setCell ⟨aJ, 0, none⟩ (.slice A2 ra c2)).setCell ⟨aJ, 1, none⟩ (.int .i64 (nn : Int))).setCell ⟨aJ, 2, none⟩ (.int .i64 (ra : Int))) = q1 at e1 BD BJ RR DD ⊢
      have BDc0 : q1.cell? ⟨aD, 0, none⟩ = some (.slice none 0 0) := BD.cell 0
      have BDf0 := BD.free 0
      have BDc1 : q1.cell? ⟨aD, 1, none⟩ = some (.slice none 0 0) := BD.cell 1
      have BDf1 := BD.free 1
      have BDc2 : q1.cell? ⟨aD, 2, none⟩ = some (.int .i64 0) := BD.cell 2
      have BDf2 := BD.free 2
      have BDc3 : q1.cell? ⟨aD, 3, none⟩ = some (.bool false) := BD.cell 3
      have BDf3 := BD.free 3
      have BDz := BD.lt
      refine anyG_store (n := 1) (i := 13) (w' := ((((q1.setCell ⟨aD, 0, none⟩ (.slice S2 nn p2)).setCell ⟨aD, 1, none⟩ (.slice P2 0 q2)).setCell ⟨aD, 2, none⟩ (.int .i64 (-1))).setCell ⟨aD, 3, none⟩ (.bool false))) (by kernel_rfl) rfl rfl rfl (fun _ => Later.mk' e1) (by go_simp) ?_
      clear BDc0 BDf0 BDc1 BDf1 BDc2 BDf2 BDc3 BDf3 BDz
      have e2 := ((((e1.setCell (p := ⟨aD, 0, none⟩) gD (.slice S2 nn p2)).setCell (p := ⟨aD, 1, none⟩) gD (.slice P2 0 q2)).setCell (p := ⟨aD, 2, none⟩) gD (.int .i64 (-1))).setCell (p := ⟨aD, 3, none⟩) gD (.bool false))
      replace BJ := ((((BJ.other (a := ⟨aD, 0, none⟩) hne (.slice S2 nn p2)).other (a := ⟨aD, 1, none⟩) hne (.slice P2 0 q2)).other (a := ⟨aD, 2, none⟩) hne (.int .i64 (-1))).other (a := ⟨aD, 3, none⟩) hne (.bool false))
      replace BD := ((((BD.set 0 (.slice S2 nn p2)).set 1 (.slice P2 0 q2)).set 2 (.int .i64 (-1))).set 3 (.bool false))
      simp only [List.set_cons_succ, List.set_cons_zero] at BD
      replace RR := (rw_set (a := aD) (by simp) (rw_set (a := aD) (by simp) (rw_set (a := aD) (by simp) (rw_set (a := aD) (by simp) RR 0 (.slice S2 nn p2)) 1 (.slice P2 0 q2)) 2 (.int .i64 (-1))) 3 (.bool false))
      replace DD := (dk_set (a := aD) (by simp) (dk_set (a := aD) (by simp) (dk_set (a := aD) (by simp) (dk_set (a := aD) (by simp) DD 0 (.slice S2 nn p2)) 1 (.slice P2 0 q2)) 2 (.int .i64 (-1))) 3 (.bool false))
      generalize ((((q1.setCell ⟨aD, 0, none⟩ (.slice S2 nn p2)).setCell ⟨aD, 1, none⟩ (.slice P2 0 q2)).setCell ⟨aD, 2, none⟩ (.int .i64 (-1))).setCell ⟨aD, 3, none⟩ (.bool false)) = q2w at e2 BD BJ RR DD ⊢
      refine anyG_val (some 15) (n := 0) (i := 14) (v := .int .i64 0) (w' := q2w) (by kernel_rfl) rfl rfl rfl (fun _ => Later.mk' e2) (by first | rfl | go_simp) ?_
      simp only [Act.put, List.setIfInBounds_toArray, List.set_cons_zero, List.set_cons_succ]
      refine anyG_done (by kernel_rfl) rfl ?_
      dsimp only [Exit.inBlock, Exit.then]
      go_wp2_with fail
      go_meet
      exact ⟨aJ, aD, A2, c2, S2, p2, P2, q2, rfl, rfl, rfl, BJ, BD, rw_all RR, dk_all DD, e2⟩
    have T3J : ∀ (A1 : Option Addr) (c1 : Nat) (A2 : Option Addr) (c2 : Nat) (S2 : Option Addr) (p2 : Nat) (P2 : Option Addr) (q2 : Nat) (aJ : Nat) (V : World), Below x10.heap.size x10 V → InW [aJ] V → Hid (RwAt V (Out [aJ]) (.slice A2 ra c2) (accT nn [] a)) → Hid (DkAt V (Out [aJ]) (.slice S2 nn p2) (.slice P2 0 q2) ⟨E2, [], -1, false⟩) → x10.heap.size ≤ aJ → Box V aJ [.slice none 0 0, .int .i64 0, .int .i64 0] → F 4 #[true, true, true, true, true, true, true, true, true, true, true, false, false, false, false] (((((((a0.put (some 70) (.agg #[.slice A1 ra c1, .int .i64 (nn : Int), .int .i64 (z0 : Int)])).put (some 72) (.tuple #[.agg #[.slice A2 ra c2, .int .i64 (nn : Int), .int .i64 (ra : Int)], .agg #[.slice S2 nn p2, .slice P2 0 q2, .int .i64 (-1), .bool false], .int .i64 0])).put (some 66) (.tuple #[.agg #[.slice A2 ra c2, .int .i64 (nn : Int), .int .i64 (ra : Int)], .agg #[.slice S2 nn p2, .slice P2 0 q2, .int .i64 (-1), .bool false], .int .i64 0])).put (some 73) (.agg #[.slice A2 ra c2, .int .i64 (nn : Int), .int .i64 (ra : Int)])).put (some 74) (.agg #[.slice S2 nn p2, .slice P2 0 q2, .int .i64 (-1), .bool false])).put (some 75) (.int .i64 0)).put (some 13) (.pointer (some ⟨aJ, 0, none⟩))) V := by
      intro A1 c1 A2 c2 S2 p2 P2 q2 aJ V h hL RR DD gJ BJ
      subst hF
      refine anyG_alone (n := 3) (i := 11) (by kernel_rfl) (fun _ => Later.mk' h) ?_
      refine wpOp_valD (some 14) (v := .pointer (some ⟨V.heap.size, 0, none⟩)) (w' := V.alloc (.cells #[.slice none 0 0, .slice none 0 0, .int .i64 0, .bool false] 25)) (by rfl) rfl rfl ?_ ?_
      · subst ha0
        try simp only [Act.put, List.setIfInBounds_toArray, List.set_cons_zero, List.set_cons_succ]
        go_simp
      have hst := (Below.refl V.heap.size V).alloc (Nat.le_refl _) (.cells #[.slice none 0 0, .slice none 0 0, .int .i64 0, .bool false] 25)
      have hq := T3JD A1 c1 A2 c2 S2 p2 P2 q2 aJ V.heap.size (V.alloc (.cells #[.slice none 0 0, .slice none 0 0, .int .i64 0, .bool false] 25)) (h.alloc h.size (.cells #[.slice none 0 0, .slice none 0 0, .int .i64 0, .bool false] 25)) (inW_swap ((hL.later hst.size).cons (a := V.heap.size) (by simp))) (rw_swap (rw_later (rw_more (a := V.heap.size) (Nat.le_refl _) RR) hst)) (dk_swap (dk_later (dk_more (a := V.heap.size) (Nat.le_refl _) DD) hst)) gJ (BJ.later hst) h.size (Box.new V [.slice none 0 0, .slice none 0 0, .int .i64 0, .bool false] 25) (Nat.ne_of_lt BJ.lt)
      subst ha0
      simp only [Act.put, List.setIfInBounds_toArray, List.set_cons_zero, List.set_cons_succ] at hq ⊢
      exact hq
    have T3D : ∀ (A1 : Option Addr) (c1 : Nat) (A2 : Option Addr) (c2 : Nat) (S2 : Option Addr) (p2 : Nat) (P2 : Option Addr) (q2 : Nat) (aD : Nat) (V : World), Below x10.heap.size x10 V → InW [aD] V → Hid (RwAt V (Out [aD]) (.slice A2 ra c2) (accT nn [] a)) → Hid (DkAt V (Out [aD]) (.slice S2 nn p2) (.slice P2 0 q2) ⟨E2, [], -1, false⟩) → x10.heap.size ≤ aD → Box V aD [.slice none 0 0, .slice none 0 0, .int .i64 0, .bool false] → F 4 #[true, true, true, true, true, true, true, true, true, true, false, true, false, false, false] (((((((a0.put (some 70) (.agg #[.slice A1 ra c1, .int .i64 (nn : Int), .int .i64 (z0 : Int)])).put (some 72) (.tuple #[.agg #[.slice A2 ra c2, .int .i64 (nn : Int), .int .i64 (ra : Int)], .agg #[.slice S2 nn p2, .slice P2 0 q2, .int .i64 (-1), .bool false], .int .i64 0])).put (some 66) (.tuple #[.agg #[.slice A2 ra c2, .int .i64 (nn : Int), .int .i64 (ra : Int)], .agg #[.slice S2 nn p2, .slice P2 0 q2, .int .i64 (-1), .bool false], .int .i64 0])).put (some 73) (.agg #[.slice A2 ra c2, .int .i64 (nn : Int), .int .i64 (ra : Int)])).put (some 74) (.agg #[.slice S2 nn p2, .slice P2 0 q2, .int .i64 (-1), .bool false])).put (some 75) (.int .i64 0)).put (some 14) (.pointer (some ⟨aD, 0, none⟩))) V := by
      intro A1 c1 A2 c2 S2 p2 P2 q2 aD V h hL RR DD gD BD
      subst hF
      refine anyG_alone (n := 3) (i := 10) (by kernel_rfl) (fun _ => Later.mk' h) ?_
      refine wpOp_valD (some 13) (v := .pointer (some ⟨V.heap.size, 0, none⟩)) (w' := V.alloc (.cells #[.slice none 0 0, .int .i64 0, .int .i64 0] 29)) (by rfl) rfl rfl ?_ ?_
      · subst ha0
        try simp only [Act.put, List.setIfInBounds_toArray, List.set_cons_zero, List.set_cons_succ]
        go_simp
      have hst := (Below.refl V.heap.size V).alloc (Nat.le_refl _) (.cells #[.slice none 0 0, .int .i64 0, .int .i64 0] 29)
      have hq := T3JD A1 c1 A2 c2 S2 p2 P2 q2 V.heap.size aD (V.alloc (.cells #[.slice none 0 0, .int .i64 0, .int .i64 0] 29)) (h.alloc h.size (.cells #[.slice none 0 0, .int .i64 0, .int .i64 0] 29)) ((hL.later hst.size).cons (a := V.heap.size) (by simp)) (rw_later (rw_more (a := V.heap.size) (Nat.le_refl _) RR) hst) (dk_later (dk_more (a := V.heap.size) (Nat.le_refl _) DD) hst) h.size (Box.new V [.slice none 0 0, .int .i64 0, .int .i64 0] 29) gD (BD.later hst) (Nat.ne_of_gt BD.lt)
      subst ha0
      simp only [Act.put, List.setIfInBounds_toArray, List.set_cons_zero, List.set_cons_succ] at hq ⊢
      exact hq
    have T3O : ∀ (A1 : Option Addr) (c1 : Nat) (A2 : Option Addr) (c2 : Nat) (S2 : Option Addr) (p2 : Nat) (P2 : Option Addr) (q2 : Nat) (V : World), Below x10.heap.size x10 V → InW [] V → Hid (RwAt V (Out []) (.slice A2 ra c2) (accT nn [] a)) → Hid (DkAt V (Out []) (.slice S2 nn p2) (.slice P2 0 q2) ⟨E2, [], -1, false⟩) → F 5 #[true, true, true, true, true, true, true, true, true, true, false, false, false, false, false] ((((((a0.put (some 70) (.agg #[.slice A1 ra c1, .int .i64 (nn : Int), .int .i64 (z0 : Int)])).put (some 72) (.tuple #[.agg #[.slice A2 ra c2, .int .i64 (nn : Int), .int .i64 (ra : Int)], .agg #[.slice S2 nn p2, .slice P2 0 q2, .int .i64 (-1), .bool false], .int .i64 0])).put (some 66) (.tuple #[.agg #[.slice A2 ra c2, .int .i64 (nn : Int), .int .i64 (ra : Int)], .agg #[.slice S2 nn p2, .slice P2 0 q2, .int .i64 (-1), .bool false], .int .i64 0])).put (some 73) (.agg #[.slice A2 ra c2, .int .i64 (nn : Int), .int .i64 (ra : Int)])).put (some 74) (.agg #[.slice S2 nn p2, .slice P2 0 q2, .int .i64 (-1), .bool false])).put (some 75) (.int .i64 0)) V := by
      intro A1 c1 A2 c2 S2 p2 P2 q2 V h hL RR DD
      subst hF
      refine anyG_two (n := 4) (i := 10) (j := 11) (by kernel_rfl) (fun _ => Later.mk' h) ?_ ?_
      · skip
        refine wpOp_valD (some 13) (v := .pointer (some ⟨V.heap.size, 0, none⟩)) (w' := V.alloc (.cells #[.slice none 0 0, .int .i64 0, .int .i64 0] 29)) (by rfl) rfl rfl ?_ ?_
        · subst ha0
          try simp only [Act.put, List.setIfInBounds_toArray, List.set_cons_zero, List.set_cons_succ]
          go_simp
        have hst := (Below.refl V.heap.size V).alloc (Nat.le_refl _) (.cells #[.slice none 0 0, .int .i64 0, .int .i64 0] 29)
        have hq := T3J A1 c1 A2 c2 S2 p2 P2 q2 V.heap.size (V.alloc (.cells #[.slice none 0 0, .int .i64 0, .int .i64 0] 29)) (h.alloc h.size (.cells #[.slice none 0 0, .int .i64 0, .int .i64 0] 29)) ((hL.later hst.size).cons (a := V.heap.size) (by simp)) (rw_later (rw_more (a := V.heap.size) (Nat.le_refl _) RR) hst) (dk_later (dk_more (a := V.heap.size) (Nat.le_refl _) DD) hst) h.size (Box.new V [.slice none 0 0, .int .i64 0, .int .i64 0] 29)
        subst ha0
        simp only [Act.put, List.setIfInBounds_toArray, List.set_cons_zero, List.set_cons_succ] at hq ⊢
        exact hq
      · skip
        refine wpOp_valD (some 14) (v := .pointer (some ⟨V.heap.size, 0, none⟩)) (w' := V.alloc (.cells #[.slice none 0 0, .slice none 0 0, .int .i64 0, .bool false] 25)) (by rfl) rfl rfl ?_ ?_
        · subst ha0
          try simp only [Act.put, List.setIfInBounds_toArray, List.set_cons_zero, List.set_cons_succ]
          go_simp
        have hst := (Below.refl V.heap.size V).alloc (Nat.le_refl _) (.cells #[.slice none 0 0, .slice none 0 0, .int .i64 0, .bool false] 25)
        have hq := T3D A1 c1 A2 c2 S2 p2 P2 q2 V.heap.size (V.alloc (.cells #[.slice none 0 0, .slice none 0 0, .int .i64 0, .bool false] 25)) (h.alloc h.size (.cells #[.slice none 0 0, .slice none 0 0, .int .i64 0, .bool false] 25)) ((hL.later hst.size).cons (a := V.heap.size) (by simp)) (rw_later (rw_more (a := V.heap.size) (Nat.le_refl _) RR) hst) (dk_later (dk_more (a := V.heap.size) (Nat.le_refl _) DD) hst) h.size (Box.new V [.slice none 0 0, .slice none 0 0, .int .i64 0, .bool false] 25)
        subst ha0
        simp only [Act.put, List.setIfInBounds_toArray, List.set_cons_zero, List.set_cons_succ] at hq ⊢
        exact hq
    have T2JD : ∀ (A1 : Option Addr) (c1 : Nat) (A2 : Option Addr) (c2 : Nat) (S2 : Option Addr) (p2 : Nat) (P2 : Option Addr) (q2 : Nat) (aJ : Nat) (aD : Nat) (V : World), Below x10.heap.size x10 V → InW [aJ, aD] V → Hid (RwAt V (Out [aJ, aD]) (.slice A2 ra c2) (accT nn [] a)) → Hid (DkAt V (Out [aJ, aD]) (.slice S2 nn p2) (.slice P2 0 q2) ⟨E2, [], -1, false⟩) → x10.heap.size ≤ aJ → Box V aJ [.slice none 0 0, .int .i64 0, .int .i64 0] → x10.heap.size ≤ aD → Box V aD [.slice none 0 0, .slice none 0 0, .int .i64 0, .bool false] → aJ ≠ aD → F 7 #[true, true, true, true, true, true, false, false, false, false, true, true, false, false, false] ((((a0.put (some 70) (.agg #[.slice A1 ra c1, .int .i64 (nn : Int), .int .i64 (z0 : Int)])).put (some 72) (.tuple #[.agg #[.slice A2 ra c2, .int .i64 (nn : Int), .int .i64 (ra : Int)], .agg #[.slice S2 nn p2, .slice P2 0 q2, .int .i64 (-1), .bool false], .int .i64 0])).put (some 13) (.pointer (some ⟨aJ, 0, none⟩))).put (some 14) (.pointer (some ⟨aD, 0, none⟩))) V := by
      intro A1 c1 A2 c2 S2 p2 P2 q2 aJ aD V h hL RR DD gJ BJ gD BD hne
      subst hF
      subst ha0
      simp only [Act.put, List.setIfInBounds_toArray, List.set_cons_zero, List.set_cons_succ]
      refine anyG_pures (by kernel_rfl) 3 V [6, 7, 8, 9] _ _ ?_ (fun _ => Later.mk' h) (by kernel_rfl) (by kernel_rfl) ?_
      · exact closed_of (by kernel_rfl)
      simp only [headOps, List.filterMap_cons, List.filterMap_nil, List.getElem?_toArray, List.getElem?_cons_succ, List.getElem?_cons_zero]
      repeat (first | go_big_quiet_skip | (show wpQuiet _ _ _ _ (_ :: _) _; go_big_quiet_skip) | (show wpQuiet _ _ _ _ (_ :: _) _; go_big_quiet_want; go_big_quiet_op; go_big_quiet_on))
      refine wpQuiet_nil ?_
      have hq := T3JD A1 c1 A2 c2 S2 p2 P2 q2 aJ aD V h hL RR DD gJ BJ gD BD hne
      simp only [Act.put, List.setIfInBounds_toArray, List.set_cons_zero, List.set_cons_succ] at hq
      exact hq
    have T2J : ∀ (A1 : Option Addr) (c1 : Nat) (A2 : Option Addr) (c2 : Nat) (S2 : Option Addr) (p2 : Nat) (P2 : Option Addr) (q2 : Nat) (aJ : Nat) (V : World), Below x10.heap.size x10 V → InW [aJ] V → Hid (RwAt V (Out [aJ]) (.slice A2 ra c2) (accT nn [] a)) → Hid (DkAt V (Out [aJ]) (.slice S2 nn p2) (.slice P2 0 q2) ⟨E2, [], -1, false⟩) → x10.heap.size ≤ aJ → Box V aJ [.slice none 0 0, .int .i64 0, .int .i64 0] → F 8 #[true, true, true, true, true, true, false, false, false, false, true, false, false, false, false] (((a0.put (some 70) (.agg #[.slice A1 ra c1, .int .i64 (nn : Int), .int .i64 (z0 : Int)])).put (some 72) (.tuple #[.agg #[.slice A2 ra c2, .int .i64 (nn : Int), .int .i64 (ra : Int)], .agg #[.slice S2 nn p2, .slice P2 0 q2, .int .i64 (-1), .bool false], .int .i64 0])).put (some 13) (.pointer (some ⟨aJ, 0, none⟩))) V := by
      intro A1 c1 A2 c2 S2 p2 P2 q2 aJ V h hL RR DD gJ BJ
      subst hF
      subst ha0
      simp only [Act.put, List.setIfInBounds_toArray, List.set_cons_zero, List.set_cons_succ]
      refine anyG_pures (by kernel_rfl) 4 V [6, 7, 8, 9] _ _ ?_ (fun _ => Later.mk' h) (by kernel_rfl) (by kernel_rfl) ?_
      · exact closed_of (by kernel_rfl)
      simp only [headOps, List.filterMap_cons, List.filterMap_nil, List.getElem?_toArray, List.getElem?_cons_succ, List.getElem?_cons_zero]
      repeat (first | go_big_quiet_skip | (show wpQuiet _ _ _ _ (_ :: _) _; go_big_quiet_skip) | (show wpQuiet _ _ _ _ (_ :: _) _; go_big_quiet_want; go_big_quiet_op; go_big_quiet_on))
      refine wpQuiet_nil ?_
      have hq := T3J A1 c1 A2 c2 S2 p2 P2 q2 aJ V h hL RR DD gJ BJ
      simp only [Act.put, List.setIfInBounds_toArray, List.set_cons_zero, List.set_cons_succ] at hq
      exact hq
    have T2D : ∀ (A1 : Option Addr) (c1 : Nat) (A2 : Option Addr) (c2 : Nat) (S2 : Option Addr) (p2 : Nat) (P2 : Option Addr) (q2 : Nat) (aD : Nat) (V : World), Below x10.heap.size x10 V → InW [aD] V → Hid (RwAt V (Out [aD]) (.slice A2 ra c2) (accT nn [] a)) → Hid (DkAt V (Out [aD]) (.slice S2 nn p2) (.slice P2 0 q2) ⟨E2, [], -1, false⟩) → x10.heap.size ≤ aD → Box V aD [.slice none 0 0, .slice none 0 0, .int .i64 0, .bool false] → F 8 #[true, true, true, true, true, true, false, false, false, false, false, true, false, false, false] (((a0.put (some 70) (.agg #[.slice A1 ra c1, .int .i64 (nn : Int), .int .i64 (z0 : Int)])).put (some 72) (.tuple #[.agg #[.slice A2 ra c2, .int .i64 (nn : Int), .int .i64 (ra : Int)], .agg #[.slice S2 nn p2, .slice P2 0 q2, .int .i64 (-1), .bool false], .int .i64 0])).put (some 14) (.pointer (some ⟨aD, 0, none⟩))) V := by
      intro A1 c1 A2 c2 S2 p2 P2 q2 aD V h hL RR DD gD BD
      subst hF
      subst ha0
      simp only [Act.put, List.setIfInBounds_toArray, List.set_cons_zero, List.set_cons_succ]
      refine anyG_pures (by kernel_rfl) 4 V [6, 7, 8, 9] _ _ ?_ (fun _ => Later.mk' h) (by kernel_rfl) (by kernel_rfl) ?_
      · exact closed_of (by kernel_rfl)
      simp only [headOps, List.filterMap_cons, List.filterMap_nil, List.getElem?_toArray, List.getElem?_cons_succ, List.getElem?_cons_zero]
      repeat (first | go_big_quiet_skip | (show wpQuiet _ _ _ _ (_ :: _) _; go_big_quiet_skip) | (show wpQuiet _ _ _ _ (_ :: _) _; go_big_quiet_want; go_big_quiet_op; go_big_quiet_on))
      refine wpQuiet_nil ?_
      have hq := T3D A1 c1 A2 c2 S2 p2 P2 q2 aD V h hL RR DD gD BD
      simp only [Act.put, List.setIfInBounds_toArray, List.set_cons_zero, List.set_cons_succ] at hq
      exact hq
    have T2O : ∀ (A1 : Option Addr) (c1 : Nat) (A2 : Option Addr) (c2 : Nat) (S2 : Option Addr) (p2 : Nat) (P2 : Option Addr) (q2 : Nat) (V : World), Below x10.heap.size x10 V → InW [] V → Hid (RwAt V (Out []) (.slice A2 ra c2) (accT nn [] a)) → Hid (DkAt V (Out []) (.slice S2 nn p2) (.slice P2 0 q2) ⟨E2, [], -1, false⟩) → F 9 #[true, true, true, true, true, true, false, false, false, false, false, false, false, false, false] ((a0.put (some 70) (.agg #[.slice A1 ra c1, .int .i64 (nn : Int), .int .i64 (z0 : Int)])).put (some 72) (.tuple #[.agg #[.slice A2 ra c2, .int .i64 (nn : Int), .int .i64 (ra : Int)], .agg #[.slice S2 nn p2, .slice P2 0 q2, .int .i64 (-1), .bool false], .int .i64 0])) V := by
      intro A1 c1 A2 c2 S2 p2 P2 q2 V h hL RR DD
      subst hF
      subst ha0
      simp only [Act.put, List.setIfInBounds_toArray, List.set_cons_zero, List.set_cons_succ]
      refine anyG_pures (by kernel_rfl) 5 V [6, 7, 8, 9] _ _ ?_ (fun _ => Later.mk' h) (by kernel_rfl) (by kernel_rfl) ?_
      · exact closed_of (by kernel_rfl)
      simp only [headOps, List.filterMap_cons, List.filterMap_nil, List.getElem?_toArray, List.getElem?_cons_succ, List.getElem?_cons_zero]
      repeat (first | go_big_quiet_skip | (show wpQuiet _ _ _ _ (_ :: _) _; go_big_quiet_skip) | (show wpQuiet _ _ _ _ (_ :: _) _; go_big_quiet_want; go_big_quiet_op; go_big_quiet_on))
      refine wpQuiet_nil ?_
      have hq := T3O A1 c1 A2 c2 S2 p2 P2 q2 V h hL RR DD
      simp only [Act.put, List.setIfInBounds_toArray, List.set_cons_zero, List.set_cons_succ] at hq
      exact hq
    have T1JD : ∀ (A1 : Option Addr) (c1 : Nat) (aJ : Nat) (aD : Nat) (V : World), Below x10.heap.size x10 V → InW [aJ, aD] V → Hid (DkAt V (Out [aJ, aD]) (.slice As nn cs) (.slice Ap 0 cp) ⟨E0, [], -1, false⟩) → Hid (RwAt V (Out [aJ, aD]) (.slice A1 ra c1) (accT nn [] a)) → x10.heap.size ≤ aJ → Box V aJ [.slice none 0 0, .int .i64 0, .int .i64 0] → x10.heap.size ≤ aD → Box V aD [.slice none 0 0, .slice none 0 0, .int .i64 0, .bool false] → aJ ≠ aD → F 8 #[true, true, true, true, true, false, false, false, false, false, true, true, false, false, false] (((a0.put (some 70) (.agg #[.slice A1 ra c1, .int .i64 (nn : Int), .int .i64 (z0 : Int)])).put (some 13) (.pointer (some ⟨aJ, 0, none⟩))).put (some 14) (.pointer (some ⟨aD, 0, none⟩))) V := by
      intro A1 c1 aJ aD V h hL hD R1 gJ BJ gD BD hne
      subst hF
      refine anyG_alone (n := 7) (i := 5) (by kernel_rfl) (fun _ => Later.mk' h) ?_
      refine wpOp_callD (some 72) (by rfl) rfl rfl ?_ ((jSyncA (s := z0) hL (Lib.hid (by rw [← HZ0.out]; exact ST.out.k1)) HRA (Lib.hid (by rw [← HZ0.out]; exact ST.out.y2)) (Lib.hid ST.out.l0) (Lib.hid ST.out.l2) R1 hD).mono ?_)
      · subst ha0
        try simp only [Act.put, List.setIfInBounds_toArray, List.set_cons_zero, List.set_cons_succ]
        go_simp
      rintro e V2 ⟨A2, c2, S2, p2, P2, q2, rfl, RR, DD, hb⟩
      refine ⟨_, rfl, ?_⟩
      have hq := T2JD A1 c1 A2 c2 S2 p2 P2 q2 aJ aD V2 (h.trans (hb.mono h.size)) (hL.later hb.size) RR DD gJ (BJ.later hb) gD (BD.later hb) hne
      subst ha0
      simp only [Act.put, List.setIfInBounds_toArray, List.set_cons_zero, List.set_cons_succ] at hq ⊢
      exact hq
    have T1J : ∀ (A1 : Option Addr) (c1 : Nat) (aJ : Nat) (V : World), Below x10.heap.size x10 V → InW [aJ] V → Hid (DkAt V (Out [aJ]) (.slice As nn cs) (.slice Ap 0 cp) ⟨E0, [], -1, false⟩) → Hid (RwAt V (Out [aJ]) (.slice A1 ra c1) (accT nn [] a)) → x10.heap.size ≤ aJ → Box V aJ [.slice none 0 0, .int .i64 0, .int .i64 0] → F 9 #[true, true, true, true, true, false, false, false, false, false, true, false, false, false, false] ((a0.put (some 70) (.agg #[.slice A1 ra c1, .int .i64 (nn : Int), .int .i64 (z0 : Int)])).put (some 13) (.pointer (some ⟨aJ, 0, none⟩))) V := by
      intro A1 c1 aJ V h hL hD R1 gJ BJ
      subst hF
      refine anyG_two (n := 8) (i := 5) (j := 11) (by kernel_rfl) (fun _ => Later.mk' h) ?_ ?_
      · skip
        refine wpOp_callD (some 72) (by rfl) rfl rfl ?_ ((jSyncA (s := z0) hL (Lib.hid (by rw [← HZ0.out]; exact ST.out.k1)) HRA (Lib.hid (by rw [← HZ0.out]; exact ST.out.y2)) (Lib.hid ST.out.l0) (Lib.hid ST.out.l2) R1 hD).mono ?_)
        · subst ha0
          try simp only [Act.put, List.setIfInBounds_toArray, List.set_cons_zero, List.set_cons_succ]
          go_simp
        rintro e V2 ⟨A2, c2, S2, p2, P2, q2, rfl, RR, DD, hb⟩
        refine ⟨_, rfl, ?_⟩
        have hq := T2J A1 c1 A2 c2 S2 p2 P2 q2 aJ V2 (h.trans (hb.mono h.size)) (hL.later hb.size) RR DD gJ (BJ.later hb)
        subst ha0
        simp only [Act.put, List.setIfInBounds_toArray, List.set_cons_zero, List.set_cons_succ] at hq ⊢
        exact hq
      · skip
        refine wpOp_valD (some 14) (v := .pointer (some ⟨V.heap.size, 0, none⟩)) (w' := V.alloc (.cells #[.slice none 0 0, .slice none 0 0, .int .i64 0, .bool false] 25)) (by rfl) rfl rfl ?_ ?_
        · subst ha0
          try simp only [Act.put, List.setIfInBounds_toArray, List.set_cons_zero, List.set_cons_succ]
          go_simp
        have hst := (Below.refl V.heap.size V).alloc (Nat.le_refl _) (.cells #[.slice none 0 0, .slice none 0 0, .int .i64 0, .bool false] 25)
        have hq := T1JD A1 c1 aJ V.heap.size (V.alloc (.cells #[.slice none 0 0, .slice none 0 0, .int .i64 0, .bool false] 25)) (h.alloc h.size (.cells #[.slice none 0 0, .slice none 0 0, .int .i64 0, .bool false] 25)) (inW_swap ((hL.later hst.size).cons (a := V.heap.size) (by simp))) (dk_swap (dk_later (dk_more (a := V.heap.size) (Nat.le_refl _) hD) hst)) (rw_swap (rw_later (rw_more (a := V.heap.size) (Nat.le_refl _) R1) hst)) gJ (BJ.later hst) h.size (Box.new V [.slice none 0 0, .slice none 0 0, .int .i64 0, .bool false] 25) (Nat.ne_of_lt BJ.lt)
        subst ha0
        simp only [Act.put, List.setIfInBounds_toArray, List.set_cons_zero, List.set_cons_succ] at hq ⊢
        exact hq
    have T1D : ∀ (A1 : Option Addr) (c1 : Nat) (aD : Nat) (V : World), Below x10.heap.size x10 V → InW [aD] V → Hid (DkAt V (Out [aD]) (.slice As nn cs) (.slice Ap 0 cp) ⟨E0, [], -1, false⟩) → Hid (RwAt V (Out [aD]) (.slice A1 ra c1) (accT nn [] a)) → x10.heap.size ≤ aD → Box V aD [.slice none 0 0, .slice none 0 0, .int .i64 0, .bool false] → F 9 #[true, true, true, true, true, false, false, false, false, false, false, true, false, false, false] ((a0.put (some 70) (.agg #[.slice A1 ra c1, .int .i64 (nn : Int), .int .i64 (z0 : Int)])).put (some 14) (.pointer (some ⟨aD, 0, none⟩))) V := by
      intro A1 c1 aD V h hL hD R1 gD BD
      subst hF
      refine anyG_two (n := 8) (i := 5) (j := 10) (by kernel_rfl) (fun _ => Later.mk' h) ?_ ?_
      · skip
        refine wpOp_callD (some 72) (by rfl) rfl rfl ?_ ((jSyncA (s := z0) hL (Lib.hid (by rw [← HZ0.out]; exact ST.out.k1)) HRA (Lib.hid (by rw [← HZ0.out]; exact ST.out.y2)) (Lib.hid ST.out.l0) (Lib.hid ST.out.l2) R1 hD).mono ?_)
        · subst ha0
          try simp only [Act.put, List.setIfInBounds_toArray, List.set_cons_zero, List.set_cons_succ]
          go_simp
        rintro e V2 ⟨A2, c2, S2, p2, P2, q2, rfl, RR, DD, hb⟩
        refine ⟨_, rfl, ?_⟩
        have hq := T2D A1 c1 A2 c2 S2 p2 P2 q2 aD V2 (h.trans (hb.mono h.size)) (hL.later hb.size) RR DD gD (BD.later hb)
        subst ha0
        simp only [Act.put, List.setIfInBounds_toArray, List.set_cons_zero, List.set_cons_succ] at hq ⊢
        exact hq
      · skip
        refine wpOp_valD (some 13) (v := .pointer (some ⟨V.heap.size, 0, none⟩)) (w' := V.alloc (.cells #[.slice none 0 0, .int .i64 0, .int .i64 0] 29)) (by rfl) rfl rfl ?_ ?_
        · subst ha0
          try simp only [Act.put, List.setIfInBounds_toArray, List.set_cons_zero, List.set_cons_succ]
          go_simp
        have hst := (Below.refl V.heap.size V).alloc (Nat.le_refl _) (.cells #[.slice none 0 0, .int .i64 0, .int .i64 0] 29)
        have hq := T1JD A1 c1 V.heap.size aD (V.alloc (.cells #[.slice none 0 0, .int .i64 0, .int .i64 0] 29)) (h.alloc h.size (.cells #[.slice none 0 0, .int .i64 0, .int .i64 0] 29)) ((hL.later hst.size).cons (a := V.heap.size) (by simp)) (dk_later (dk_more (a := V.heap.size) (Nat.le_refl _) hD) hst) (rw_later (rw_more (a := V.heap.size) (Nat.le_refl _) R1) hst) h.size (Box.new V [.slice none 0 0, .int .i64 0, .int .i64 0] 29) gD (BD.later hst) (Nat.ne_of_gt BD.lt)
        subst ha0
        simp only [Act.put, List.setIfInBounds_toArray, List.set_cons_zero, List.set_cons_succ] at hq ⊢
        exact hq
    have T1O : ∀ (A1 : Option Addr) (c1 : Nat) (V : World), Below x10.heap.size x10 V → InW [] V → Hid (DkAt V (Out []) (.slice As nn cs) (.slice Ap 0 cp) ⟨E0, [], -1, false⟩) → Hid (RwAt V (Out []) (.slice A1 ra c1) (accT nn [] a)) → F 10 #[true, true, true, true, true, false, false, false, false, false, false, false, false, false, false] (a0.put (some 70) (.agg #[.slice A1 ra c1, .int .i64 (nn : Int), .int .i64 (z0 : Int)])) V := by
      intro A1 c1 V h hL hD R1
      subst hF
      refine anyG_three (n := 9) (i := 5) (j := 10) (l := 11) (by kernel_rfl) (fun _ => Later.mk' h) ?_ ?_ ?_
      · skip
        refine wpOp_callD (some 72) (by rfl) rfl rfl ?_ ((jSyncA (s := z0) hL (Lib.hid (by rw [← HZ0.out]; exact ST.out.k1)) HRA (Lib.hid (by rw [← HZ0.out]; exact ST.out.y2)) (Lib.hid ST.out.l0) (Lib.hid ST.out.l2) R1 hD).mono ?_)
        · subst ha0
          try simp only [Act.put, List.setIfInBounds_toArray, List.set_cons_zero, List.set_cons_succ]
          go_simp
        rintro e V2 ⟨A2, c2, S2, p2, P2, q2, rfl, RR, DD, hb⟩
        refine ⟨_, rfl, ?_⟩
        have hq := T2O A1 c1 A2 c2 S2 p2 P2 q2 V2 (h.trans (hb.mono h.size)) (hL.later hb.size) RR DD
        subst ha0
        simp only [Act.put, List.setIfInBounds_toArray, List.set_cons_zero, List.set_cons_succ] at hq ⊢
        exact hq
      · skip
        refine wpOp_valD (some 13) (v := .pointer (some ⟨V.heap.size, 0, none⟩)) (w' := V.alloc (.cells #[.slice none 0 0, .int .i64 0, .int .i64 0] 29)) (by rfl) rfl rfl ?_ ?_
        · subst ha0
          try simp only [Act.put, List.setIfInBounds_toArray, List.set_cons_zero, List.set_cons_succ]
          go_simp
        have hst := (Below.refl V.heap.size V).alloc (Nat.le_refl _) (.cells #[.slice none 0 0, .int .i64 0, .int .i64 0] 29)
        have hq := T1J A1 c1 V.heap.size (V.alloc (.cells #[.slice none 0 0, .int .i64 0, .int .i64 0] 29)) (h.alloc h.size (.cells #[.slice none 0 0, .int .i64 0, .int .i64 0] 29)) ((hL.later hst.size).cons (a := V.heap.size) (by simp)) (dk_later (dk_more (a := V.heap.size) (Nat.le_refl _) hD) hst) (rw_later (rw_more (a := V.heap.size) (Nat.le_refl _) R1) hst) h.size (Box.new V [.slice none 0 0, .int .i64 0, .int .i64 0] 29)
        subst ha0
        simp only [Act.put, List.setIfInBounds_toArray, List.set_cons_zero, List.set_cons_succ] at hq ⊢
        exact hq
      · skip
        refine wpOp_valD (some 14) (v := .pointer (some ⟨V.heap.size, 0, none⟩)) (w' := V.alloc (.cells #[.slice none 0 0, .slice none 0 0, .int .i64 0, .bool false] 25)) (by rfl) rfl rfl ?_ ?_
        · subst ha0
          try simp only [Act.put, List.setIfInBounds_toArray, List.set_cons_zero, List.set_cons_succ]
          go_simp
        have hst := (Below.refl V.heap.size V).alloc (Nat.le_refl _) (.cells #[.slice none 0 0, .slice none 0 0, .int .i64 0, .bool false] 25)
        have hq := T1D A1 c1 V.heap.size (V.alloc (.cells #[.slice none 0 0, .slice none 0 0, .int .i64 0, .bool false] 25)) (h.alloc h.size (.cells #[.slice none 0 0, .slice none 0 0, .int .i64 0, .bool false] 25)) ((hL.later hst.size).cons (a := V.heap.size) (by simp)) (dk_later (dk_more (a := V.heap.size) (Nat.le_refl _) hD) hst) (rw_later (rw_more (a := V.heap.size) (Nat.le_refl _) R1) hst) h.size (Box.new V [.slice none 0 0, .slice none 0 0, .int .i64 0, .bool false] 25)
        subst ha0
        simp only [Act.put, List.setIfInBounds_toArray, List.set_cons_zero, List.set_cons_succ] at hq ⊢
        exact hq
    have T0JD : ∀ (aJ : Nat) (aD : Nat) (V : World), Below x10.heap.size x10 V → InW [aJ, aD] V → Hid (RwAt V (Out [aJ, aD]) (.slice Aa na ca) a) → Hid (DkAt V (Out [aJ, aD]) (.slice As nn cs) (.slice Ap 0 cp) ⟨E0, [], -1, false⟩) → Hid (RwAt V (Out [aJ, aD]) (.slice Al z0 cl) []) → x10.heap.size ≤ aJ → Box V aJ [.slice none 0 0, .int .i64 0, .int .i64 0] → x10.heap.size ≤ aD → Box V aD [.slice none 0 0, .slice none 0 0, .int .i64 0, .bool false] → aJ ≠ aD → F 9 #[true, true, true, false, true, false, false, false, false, false, true, true, false, false, false] ((a0.put (some 13) (.pointer (some ⟨aJ, 0, none⟩))).put (some 14) (.pointer (some ⟨aD, 0, none⟩))) V := by
      intro aJ aD V h hL hA hD hR gJ BJ gD BD hne
      subst hF
      refine anyG_alone (n := 8) (i := 3) (by kernel_rfl) (fun _ => Later.mk' h) ?_
      refine wpOp_callD (some 70) (by rfl) rfl rfl ?_ ((jAddA (R := []) (s := z0) hL (Lib.hid (by rw [← HZ0.out]; exact ST.out.k0)) (Lib.hid HZ0.out) hR hA hna hla HRA).mono ?_)
      · subst ha0
        try simp only [Act.put, List.setIfInBounds_toArray, List.set_cons_zero, List.set_cons_succ]
        go_simp
      rintro e V2 ⟨A1, c1, rfl, R1, hb⟩
      refine ⟨_, rfl, ?_⟩
      have hq := T1JD A1 c1 aJ aD V2 (h.trans (hb.mono h.size)) (hL.later hb.size) (dk_later hD hb) R1 gJ (BJ.later hb) gD (BD.later hb) hne
      subst ha0
      simp only [Act.put, List.setIfInBounds_toArray, List.set_cons_zero, List.set_cons_succ] at hq ⊢
      exact hq
    have T0J : ∀ (aJ : Nat) (V : World), Below x10.heap.size x10 V → InW [aJ] V → Hid (RwAt V (Out [aJ]) (.slice Aa na ca) a) → Hid (DkAt V (Out [aJ]) (.slice As nn cs) (.slice Ap 0 cp) ⟨E0, [], -1, false⟩) → Hid (RwAt V (Out [aJ]) (.slice Al z0 cl) []) → x10.heap.size ≤ aJ → Box V aJ [.slice none 0 0, .int .i64 0, .int .i64 0] → F 10 #[true, true, true, false, true, false, false, false, false, false, true, false, false, false, false] (a0.put (some 13) (.pointer (some ⟨aJ, 0, none⟩))) V := by
      intro aJ V h hL hA hD hR gJ BJ
      subst hF
      refine anyG_two (n := 9) (i := 3) (j := 11) (by kernel_rfl) (fun _ => Later.mk' h) ?_ ?_
      · skip
        refine wpOp_callD (some 70) (by rfl) rfl rfl ?_ ((jAddA (R := []) (s := z0) hL (Lib.hid (by rw [← HZ0.out]; exact ST.out.k0)) (Lib.hid HZ0.out) hR hA hna hla HRA).mono ?_)
        · subst ha0
          try simp only [Act.put, List.setIfInBounds_toArray, List.set_cons_zero, List.set_cons_succ]
          go_simp
        rintro e V2 ⟨A1, c1, rfl, R1, hb⟩
        refine ⟨_, rfl, ?_⟩
        have hq := T1J A1 c1 aJ V2 (h.trans (hb.mono h.size)) (hL.later hb.size) (dk_later hD hb) R1 gJ (BJ.later hb)
        subst ha0
        simp only [Act.put, List.setIfInBounds_toArray, List.set_cons_zero, List.set_cons_succ] at hq ⊢
        exact hq
      · skip
        refine wpOp_valD (some 14) (v := .pointer (some ⟨V.heap.size, 0, none⟩)) (w' := V.alloc (.cells #[.slice none 0 0, .slice none 0 0, .int .i64 0, .bool false] 25)) (by rfl) rfl rfl ?_ ?_
        · subst ha0
          try simp only [Act.put, List.setIfInBounds_toArray, List.set_cons_zero, List.set_cons_succ]
          go_simp
        have hst := (Below.refl V.heap.size V).alloc (Nat.le_refl _) (.cells #[.slice none 0 0, .slice none 0 0, .int .i64 0, .bool false] 25)
        have hq := T0JD aJ V.heap.size (V.alloc (.cells #[.slice none 0 0, .slice none 0 0, .int .i64 0, .bool false] 25)) (h.alloc h.size (.cells #[.slice none 0 0, .slice none 0 0, .int .i64 0, .bool false] 25)) (inW_swap ((hL.later hst.size).cons (a := V.heap.size) (by simp))) (rw_swap (rw_later (rw_more (a := V.heap.size) (Nat.le_refl _) hA) hst)) (dk_swap (dk_later (dk_more (a := V.heap.size) (Nat.le_refl _) hD) hst)) (rw_swap (rw_later (rw_more (a := V.heap.size) (Nat.le_refl _) hR) hst)) gJ (BJ.later hst) h.size (Box.new V [.slice none 0 0, .slice none 0 0, .int .i64 0, .bool false] 25) (Nat.ne_of_lt BJ.lt)
        subst ha0
        simp only [Act.put, List.setIfInBounds_toArray, List.set_cons_zero, List.set_cons_succ] at hq ⊢
        exact hq
    have T0D : ∀ (aD : Nat) (V : World), Below x10.heap.size x10 V → InW [aD] V → Hid (RwAt V (Out [aD]) (.slice Aa na ca) a) → Hid (DkAt V (Out [aD]) (.slice As nn cs) (.slice Ap 0 cp) ⟨E0, [], -1, false⟩) → Hid (RwAt V (Out [aD]) (.slice Al z0 cl) []) → x10.heap.size ≤ aD → Box V aD [.slice none 0 0, .slice none 0 0, .int .i64 0, .bool false] → F 10 #[true, true, true, false, true, false, false, false, false, false, false, true, false, false, false] (a0.put (some 14) (.pointer (some ⟨aD, 0, none⟩))) V := by
      intro aD V h hL hA hD hR gD BD
      subst hF
      refine anyG_two (n := 9) (i := 3) (j := 10) (by kernel_rfl) (fun _ => Later.mk' h) ?_ ?_
      · skip
        refine wpOp_callD (some 70) (by rfl) rfl rfl ?_ ((jAddA (R := []) (s := z0) hL (Lib.hid (by rw [← HZ0.out]; exact ST.out.k0)) (Lib.hid HZ0.out) hR hA hna hla HRA).mono ?_)
        · subst ha0
          try simp only [Act.put, List.setIfInBounds_toArray, List.set_cons_zero, List.set_cons_succ]
          go_simp
        rintro e V2 ⟨A1, c1, rfl, R1, hb⟩
        refine ⟨_, rfl, ?_⟩
        have hq := T1D A1 c1 aD V2 (h.trans (hb.mono h.size)) (hL.later hb.size) (dk_later hD hb) R1 gD (BD.later hb)
        subst ha0
        simp only [Act.put, List.setIfInBounds_toArray, List.set_cons_zero, List.set_cons_succ] at hq ⊢
        exact hq
      · skip
        refine wpOp_valD (some 13) (v := .pointer (some ⟨V.heap.size, 0, none⟩)) (w' := V.alloc (.cells #[.slice none 0 0, .int .i64 0, .int .i64 0] 29)) (by rfl) rfl rfl ?_ ?_
        · subst ha0
          try simp only [Act.put, List.setIfInBounds_toArray, List.set_cons_zero, List.set_cons_succ]
          go_simp
        have hst := (Below.refl V.heap.size V).alloc (Nat.le_refl _) (.cells #[.slice none 0 0, .int .i64 0, .int .i64 0] 29)
        have hq := T0JD V.heap.size aD (V.alloc (.cells #[.slice none 0 0, .int .i64 0, .int .i64 0] 29)) (h.alloc h.size (.cells #[.slice none 0 0, .int .i64 0, .int .i64 0] 29)) ((hL.later hst.size).cons (a := V.heap.size) (by simp)) (rw_later (rw_more (a := V.heap.size) (Nat.le_refl _) hA) hst) (dk_later (dk_more (a := V.heap.size) (Nat.le_refl _) hD) hst) (rw_later (rw_more (a := V.heap.size) (Nat.le_refl _) hR) hst) h.size (Box.new V [.slice none 0 0, .int .i64 0, .int .i64 0] 29) gD (BD.later hst) (Nat.ne_of_gt BD.lt)
        subst ha0
        simp only [Act.put, List.setIfInBounds_toArray, List.set_cons_zero, List.set_cons_succ] at hq ⊢
        exact hq
    have T0O : ∀ (V : World), Below x10.heap.size x10 V → InW [] V → Hid (RwAt V (Out []) (.slice Aa na ca) a) → Hid (DkAt V (Out []) (.slice As nn cs) (.slice Ap 0 cp) ⟨E0, [], -1, false⟩) → Hid (RwAt V (Out []) (.slice Al z0 cl) []) → F 11 #[true, true, true, false, true, false, false, false, false, false, false, false, false, false, false] a0 V := by
      intro V h hL hA hD hR
      subst hF
      refine anyG_three (n := 10) (i := 3) (j := 10) (l := 11) (by kernel_rfl) (fun _ => Later.mk' h) ?_ ?_ ?_
      · skip
        refine wpOp_callD (some 70) (by rfl) rfl rfl ?_ ((jAddA (R := []) (s := z0) hL (Lib.hid (by rw [← HZ0.out]; exact ST.out.k0)) (Lib.hid HZ0.out) hR hA hna hla HRA).mono ?_)
        · subst ha0
          try simp only [Act.put, List.setIfInBounds_toArray, List.set_cons_zero, List.set_cons_succ]
          go_simp
        rintro e V2 ⟨A1, c1, rfl, R1, hb⟩
        refine ⟨_, rfl, ?_⟩
        have hq := T1O A1 c1 V2 (h.trans (hb.mono h.size)) (hL.later hb.size) (dk_later hD hb) R1
        subst ha0
        simp only [Act.put, List.setIfInBounds_toArray, List.set_cons_zero, List.set_cons_succ] at hq ⊢
        exact hq
      · skip
        refine wpOp_valD (some 13) (v := .pointer (some ⟨V.heap.size, 0, none⟩)) (w' := V.alloc (.cells #[.slice none 0 0, .int .i64 0, .int .i64 0] 29)) (by rfl) rfl rfl ?_ ?_
        · subst ha0
          try simp only [Act.put, List.setIfInBounds_toArray, List.set_cons_zero, List.set_cons_succ]
          go_simp
        have hst := (Below.refl V.heap.size V).alloc (Nat.le_refl _) (.cells #[.slice none 0 0, .int .i64 0, .int .i64 0] 29)
        have hq := T0J V.heap.size (V.alloc (.cells #[.slice none 0 0, .int .i64 0, .int .i64 0] 29)) (h.alloc h.size (.cells #[.slice none 0 0, .int .i64 0, .int .i64 0] 29)) ((hL.later hst.size).cons (a := V.heap.size) (by simp)) (rw_later (rw_more (a := V.heap.size) (Nat.le_refl _) hA) hst) (dk_later (dk_more (a := V.heap.size) (Nat.le_refl _) hD) hst) (rw_later (rw_more (a := V.heap.size) (Nat.le_refl _) hR) hst) h.size (Box.new V [.slice none 0 0, .int .i64 0, .int .i64 0] 29)
        subst ha0
        simp only [Act.put, List.setIfInBounds_toArray, List.set_cons_zero, List.set_cons_succ] at hq ⊢
        exact hq
      · skip
        refine wpOp_valD (some 14) (v := .pointer (some ⟨V.heap.size, 0, none⟩)) (w' := V.alloc (.cells #[.slice none 0 0, .slice none 0 0, .int .i64 0, .bool false] 25)) (by rfl) rfl rfl ?_ ?_
        · subst ha0
          try simp only [Act.put, List.setIfInBounds_toArray, List.set_cons_zero, List.set_cons_succ]
          go_simp
        have hst := (Below.refl V.heap.size V).alloc (Nat.le_refl _) (.cells #[.slice none 0 0, .slice none 0 0, .int .i64 0, .bool false] 25)
        have hq := T0D V.heap.size (V.alloc (.cells #[.slice none 0 0, .slice none 0 0, .int .i64 0, .bool false] 25)) (h.alloc h.size (.cells #[.slice none 0 0, .slice none 0 0, .int .i64 0, .bool false] 25)) ((hL.later hst.size).cons (a := V.heap.size) (by simp)) (rw_later (rw_more (a := V.heap.size) (Nat.le_refl _) hA) hst) (dk_later (dk_more (a := V.heap.size) (Nat.le_refl _) hD) hst) (rw_later (rw_more (a := V.heap.size) (Nat.le_refl _) hR) hst) h.size (Box.new V [.slice none 0 0, .slice none 0 0, .int .i64 0, .bool false] 25)
        subst ha0
        simp only [Act.put, List.setIfInBounds_toArray, List.set_cons_zero, List.set_cons_succ] at hq ⊢
        exact hq
    have hl : headsL [0, 1, 2, 4] (Array.replicate 15 false) = #[true, true, true, false, true, false, false, false, false, false, false, false, false, false, false] := by kernel_rfl
    first | rw [hl] | skip
    exact T0O Wd hd (InW.nil Wd) hAt hDt hRt
  case rest =>
  obtain ⟨Oo, Xx, Ao, co, Sx, px, Px, qx, rfl, rfl, rfl, XO, XX, RO, DX, hb⟩ := hcut
  obtain ⟨x11, rfl⟩ : ∃ x : World, x = wc := ⟨_, rfl⟩
  replace XD := XD.later hb
  replace XL := XL.later hb
  replace XB := XB.later hb
  replace XC := XC.later hb
  replace hA := rw_later hA hb
  replace hBr := rw_later hBr hb
  replace hD := dk_later hD hb
  replace hR := rw_later hR hb
  replace RB1 := rw_later RB1 hb
  replace DC := dk_later DC hb
  replace hB := hB.trans (hb.mono hB.size)
  clear hb
  go_upto_region 12 with fail
  go_cut [16, 17, 18] (fun sa sb sc wx => ∃ (Xa Ya : Nat) (A2 : Option Addr) (c2 : Nat) (S2 : Option Addr) (p2 : Nat) (P2 : Option Addr) (q2 : Nat), sa = .pointer (some ⟨Xa, 0, none⟩) ∧ sb = .pointer (some ⟨Ya, 0, none⟩) ∧ sc = .int .i64 0 ∧ Box wx Xa [.slice A2 rb c2, .int .i64 (nn : Int), .int .i64 (rb : Int)] ∧ Box wx Ya [.slice S2 nn p2, .slice P2 0 q2, .int .i64 (-1), .bool false] ∧ Hid (RwAt wx (Out []) (.slice A2 rb c2) (accT nn (accT nn [] a) b)) ∧ Hid (DkAt wx (Out []) (.slice S2 nn p2) (.slice P2 0 q2) ⟨E3, [], -1, false⟩) ∧ Below x11.heap.size x11 wx)
  case first =>
    have hd := (Below.refl x11.heap.size x11).drew
    have zb0 := XO.lt
    have u00 : ∀ q : Later x11, q.w.cell? ⟨Oo, 0, none⟩ = some (.slice Ao ra co) := Later.cell (XO.cell 0) zb0
    have u01 : ∀ q : Later x11, q.w.cell? ⟨Oo, 1, none⟩ = some (.int .i64 (nn : Int)) := Later.cell (XO.cell 1) zb0
    have u02 : ∀ q : Later x11, q.w.cell? ⟨Oo, 2, none⟩ = some (.int .i64 (ra : Int)) := Later.cell (XO.cell 2) zb0
    have zb1 := XX.lt
    have u10 : ∀ q : Later x11, q.w.cell? ⟨Xx, 0, none⟩ = some (.slice Sx nn px) := Later.cell (XX.cell 0) zb1
    have u11 : ∀ q : Later x11, q.w.cell? ⟨Xx, 1, none⟩ = some (.slice Px 0 qx) := Later.cell (XX.cell 1) zb1
    have u12 : ∀ q : Later x11, q.w.cell? ⟨Xx, 2, none⟩ = some (.int .i64 (-1)) := Later.cell (XX.cell 2) zb1
    have u13 : ∀ q : Later x11, q.w.cell? ⟨Xx, 3, none⟩ = some (.bool false) := Later.cell (XX.cell 3) zb1
    refine wp_region_upto (C := fun w' => ∃ x : Later x11, w' = x.w) 14 [0, 1, 2, 4] (by kernel_rfl) (by kernel_rfl) (Later.mk' hd) (fun _ _ h => h) ?_
    simp only [headOps, List.filterMap_cons, List.filterMap_nil, List.getElem?_toArray, List.getElem?_cons_succ, List.getElem?_cons_zero]
    repeat (first | go_big_quiet_skip | (show wpQuiet _ _ _ _ (_ :: _) _; go_big_quiet_skip) | (show wpQuiet _ _ _ _ (_ :: _) _; go_big_quiet_want; go_big_quiet_op; go_big_quiet_on))
    refine wpQuiet_nil ?_
    clear u00 u01 u02 u10 u11 u12 u13 XD XL XB XC XO XX
    have DXt := dk_later DX hd
    have ROt := rw_later RO hd
    have hBrt := rw_later hBr hd
    generalize x11.drew = Wd at hd DXt ROt hBrt ⊢
    refine gen_any ?_
    intro F hF a0 ha0
    have T3JD : ∀ (A1 : Option Addr) (c1 : Nat) (A2 : Option Addr) (c2 : Nat) (S2 : Option Addr) (p2 : Nat) (P2 : Option Addr) (q2 : Nat) (aJ : Nat) (aD : Nat) (V : World), Below x11.heap.size x11 V → InW [aJ, aD] V → Hid (RwAt V (Out [aJ, aD]) (.slice A2 rb c2) (accT nn (accT nn [] a) b)) → Hid (DkAt V (Out [aJ, aD]) (.slice S2 nn p2) (.slice P2 0 q2) ⟨E3, [], -1, false⟩) → x11.heap.size ≤ aJ → Box V aJ [.slice none 0 0, .int .i64 0, .int .i64 0] → x11.heap.size ≤ aD → Box V aD [.slice none 0 0, .slice none 0 0, .int .i64 0, .bool false] → aJ ≠ aD → F 3 #[true, true, true, true, true, true, true, true, true, true, true, true, false, false, false] ((((((((a0.put (some 80) (.agg #[.slice A1 rb c1, .int .i64 (nn : Int), .int .i64 (ra : Int)])).put (some 82) (.tuple #[.agg #[.slice A2 rb c2, .int .i64 (nn : Int), .int .i64 (rb : Int)], .agg #[.slice S2 nn p2, .slice P2 0 q2, .int .i64 (-1), .bool false], .int .i64 0])).put (some 76) (.tuple #[.agg #[.slice A2 rb c2, .int .i64 (nn : Int), .int .i64 (rb : Int)], .agg #[.slice S2 nn p2, .slice P2 0 q2, .int .i64 (-1), .bool false], .int .i64 0])).put (some 83) (.agg #[.slice A2 rb c2, .int .i64 (nn : Int), .int .i64 (rb : Int)])).put (some 84) (.agg #[.slice S2 nn p2, .slice P2 0 q2, .int .i64 (-1), .bool false])).put (some 85) (.int .i64 0)).put (some 16) (.pointer (some ⟨aJ, 0, none⟩))).put (some 17) (.pointer (some ⟨aD, 0, none⟩))) V := by
      intro A1 c1 A2 c2 S2 p2 P2 q2 aJ aD V h hL RR DD gJ BJ gD BD hne
      subst hF ha0
      simp only [Act.put, List.setIfInBounds_toArray, List.set_cons_zero, List.set_cons_succ]
      have BJc0 : V.cell? ⟨aJ, 0, none⟩ = some (.slice none 0 0) := BJ.cell 0
      have BJf0 := BJ.free 0
      have BJc1 : V.cell? ⟨aJ, 1, none⟩ = some (.int .i64 0) := BJ.cell 1
      have BJf1 := BJ.free 1
      have BJc2 : V.cell? ⟨aJ, 2, none⟩ = some (.int .i64 0) := BJ.cell 2
      have BJf2 := BJ.free 2
      have BJz := BJ.lt
      refine anyG_store (n := 2) (i := 12) (w' := (((V.setCell ⟨aJ, 0, none⟩ (.slice A2 rb c2)).setCell ⟨aJ, 1, none⟩ (.int .i64 (nn : Int))).setCell ⟨aJ, 2, none⟩ (.int .i64 (rb : Int)))) (by kernel_rfl) rfl rfl rfl (fun _ => Later.mk' h) (by go_simp) ?_
      clear BJc0 BJf0 BJc1 BJf1 BJc2 BJf2 BJz
      have e1 := (((h.setCell (p := ⟨aJ, 0, none⟩) gJ (.slice A2 rb c2)).setCell (p := ⟨aJ, 1, none⟩) gJ (.int .i64 (nn : Int))).setCell (p := ⟨aJ, 2, none⟩) gJ (.int .i64 (rb : Int)))
      replace BD := (((BD.other (a := ⟨aJ, 0, none⟩) (Ne.symm hne) (.slice A2 rb c2)).other (a := ⟨aJ, 1, none⟩) (Ne.symm hne) (.int .i64 (nn : Int))).other (a := ⟨aJ, 2, none⟩) (Ne.symm hne) (.int .i64 (rb : Int)))
      replace BJ := (((BJ.set 0 (.slice A2 rb c2)).set 1 (.int .i64 (nn : Int))).set 2 (.int .i64 (rb : Int)))
      simp only [List.set_cons_succ, List.set_cons_zero] at BJ
      replace RR := (rw_set (a := aJ) (by simp) (rw_set (a := aJ) (by simp) (rw_set (a := aJ) (by simp) RR 0 (.slice A2 rb c2)) 1 (.int .i64 (nn : Int))) 2 (.int .i64 (rb : Int)))
      replace DD := (dk_set (a := aJ) (by simp) (dk_set (a := aJ) (by simp) (dk_set (a := aJ) (by simp) DD 0 (.slice A2 rb c2)) 1 (.int .i64 (nn : Int))) 2 (.int .i64 (rb : Int)))
      generalize (((V.setCell ⟨aJ, 0, none⟩ (.slice A2 rb c2)).setCell ⟨aJ, 1, none⟩ (.int .i64 (nn : Int))).setCell ⟨aJ, 2, none⟩ (.int .i64 (rb : Int))) = q1 at e1 BD BJ RR DD ⊢
      have BDc0 : q1.cell? ⟨aD, 0, none⟩ = some (.slice none 0 0) := BD.cell 0
      have BDf0 := BD.free 0
      have BDc1 : q1.cell? ⟨aD, 1, none⟩ = some (.slice none 0 0) := BD.cell 1
      have BDf1 := BD.free 1
      have BDc2 : q1.cell? ⟨aD, 2, none⟩ = some (.int .i64 0) := BD.cell 2
      have BDf2 := BD.free 2
      have BDc3 : q1.cell? ⟨aD, 3, none⟩ = some (.bool false) := BD.cell 3
      have BDf3 := BD.free 3
      have BDz := BD.lt
      refine anyG_store (n := 1) (i := 13) (w' := ((((q1.setCell ⟨aD, 0, none⟩ (.slice S2 nn p2)).setCell ⟨aD, 1, none⟩ (.slice P2 0 q2)).setCell ⟨aD, 2, none⟩ (.int .i64 (-1))).setCell ⟨aD, 3, none⟩ (.bool false))) (by kernel_rfl) rfl rfl rfl (fun _ => Later.mk' e1) (by go_simp) ?_
      clear BDc0 BDf0 BDc1 BDf1 BDc2 BDf2 BDc3 BDf3 BDz
      have e2 := ((((e1.setCell (p := ⟨aD, 0, none⟩) gD (.slice S2 nn p2)).setCell (p := ⟨aD, 1, none⟩) gD (.slice P2 0 q2)).setCell (p := ⟨aD, 2, none⟩) gD (.int .i64 (-1))).setCell (p := ⟨aD, 3, none⟩) gD (.bool false))
      replace BJ := ((((BJ.other (a := ⟨aD, 0, none⟩) hne (.slice S2 nn p2)).other (a := ⟨aD, 1, none⟩) hne (.slice P2 0 q2)).other (a := ⟨aD, 2, none⟩) hne (.int .i64 (-1))).other (a := ⟨aD, 3, none⟩) hne (.bool false))
      replace BD := ((((BD.set 0 (.slice S2 nn p2)).set 1 (.slice P2 0 q2)).set 2 (.int .i64 (-1))).set 3 (.bool false))
      simp only [List.set_cons_succ, List.set_cons_zero] at BD
      replace RR := (rw_set (a := aD) (by simp) (rw_set (a := aD) (by simp) (rw_set (a := aD) (by simp) (rw_set (a := aD) (by simp) RR 0 (.slice S2 nn p2)) 1 (.slice P2 0 q2)) 2 (.int .i64 (-1))) 3 (.bool false))
      replace DD := (dk_set (a := aD) (by simp) (dk_set (a := aD) (by simp) (dk_set (a := aD) (by simp) (dk_set (a := aD) (by simp) DD 0 (.slice S2 nn p2)) 1 (.slice P2 0 q2)) 2 (.int .i64 (-1))) 3 (.bool false))
      generalize ((((q1.setCell ⟨aD, 0, none⟩ (.slice S2 nn p2)).setCell ⟨aD, 1, none⟩ (.slice P2 0 q2)).setCell ⟨aD, 2, none⟩ (.int .i64 (-1))).setCell ⟨aD, 3, none⟩ (.bool false)) = q2w at e2 BD BJ RR DD ⊢
      refine anyG_val (some 18) (n := 0) (i := 14) (v := .int .i64 0) (w' := q2w) (by kernel_rfl) rfl rfl rfl (fun _ => Later.mk' e2) (by first | rfl | go_simp) ?_
      simp only [Act.put, List.setIfInBounds_toArray, List.set_cons_zero, List.set_cons_succ]
      refine anyG_done (by kernel_rfl) rfl ?_
      dsimp only [Exit.inBlock, Exit.then]
      go_wp2_with fail
      go_meet
      exact ⟨aJ, aD, A2, c2, S2, p2, P2, q2, rfl, rfl, rfl, BJ, BD, rw_all RR, dk_all DD, e2⟩
    have T3J : ∀ (A1 : Option Addr) (c1 : Nat) (A2 : Option Addr) (c2 : Nat) (S2 : Option Addr) (p2 : Nat) (P2 : Option Addr) (q2 : Nat) (aJ : Nat) (V : World), Below x11.heap.size x11 V → InW [aJ] V → Hid (RwAt V (Out [aJ]) (.slice A2 rb c2) (accT nn (accT nn [] a) b)) → Hid (DkAt V (Out [aJ]) (.slice S2 nn p2) (.slice P2 0 q2) ⟨E3, [], -1, false⟩) → x11.heap.size ≤ aJ → Box V aJ [.slice none 0 0, .int .i64 0, .int .i64 0] → F 4 #[true, true, true, true, true, true, true, true, true, true, true, false, false, false, false] (((((((a0.put (some 80) (.agg #[.slice A1 rb c1, .int .i64 (nn : Int), .int .i64 (ra : Int)])).put (some 82) (.tuple #[.agg #[.slice A2 rb c2, .int .i64 (nn : Int), .int .i64 (rb : Int)], .agg #[.slice S2 nn p2, .slice P2 0 q2, .int .i64 (-1), .bool false], .int .i64 0])).put (some 76) (.tuple #[.agg #[.slice A2 rb c2, .int .i64 (nn : Int), .int .i64 (rb : Int)], .agg #[.slice S2 nn p2, .slice P2 0 q2, .int .i64 (-1), .bool false], .int .i64 0])).put (some 83) (.agg #[.slice A2 rb c2, .int .i64 (nn : Int), .int .i64 (rb : Int)])).put (some 84) (.agg #[.slice S2 nn p2, .slice P2 0 q2, .int .i64 (-1), .bool false])).put (some 85) (.int .i64 0)).put (some 16) (.pointer (some ⟨aJ, 0, none⟩))) V := by
      intro A1 c1 A2 c2 S2 p2 P2 q2 aJ V h hL RR DD gJ BJ
      subst hF
      refine anyG_alone (n := 3) (i := 11) (by kernel_rfl) (fun _ => Later.mk' h) ?_
      refine wpOp_valD (some 17) (v := .pointer (some ⟨V.heap.size, 0, none⟩)) (w' := V.alloc (.cells #[.slice none 0 0, .slice none 0 0, .int .i64 0, .bool false] 25)) (by rfl) rfl rfl ?_ ?_
      · subst ha0
        try simp only [Act.put, List.setIfInBounds_toArray, List.set_cons_zero, List.set_cons_succ]
        go_simp
      have hst := (Below.refl V.heap.size V).alloc (Nat.le_refl _) (.cells #[.slice none 0 0, .slice none 0 0, .int .i64 0, .bool false] 25)
      have hq := T3JD A1 c1 A2 c2 S2 p2 P2 q2 aJ V.heap.size (V.alloc (.cells #[.slice none 0 0, .slice none 0 0, .int .i64 0, .bool false] 25)) (h.alloc h.size (.cells #[.slice none 0 0, .slice none 0 0, .int .i64 0, .bool false] 25)) (inW_swap ((hL.later hst.size).cons (a := V.heap.size) (by simp))) (rw_swap (rw_later (rw_more (a := V.heap.size) (Nat.le_refl _) RR) hst)) (dk_swap (dk_later (dk_more (a := V.heap.size) (Nat.le_refl _) DD) hst)) gJ (BJ.later hst) h.size (Box.new V [.slice none 0 0, .slice none 0 0, .int .i64 0, .bool false] 25) (Nat.ne_of_lt BJ.lt)
      subst ha0
      simp only [Act.put, List.setIfInBounds_toArray, List.set_cons_zero, List.set_cons_succ] at hq ⊢
      exact hq
    have T3D : ∀ (A1 : Option Addr) (c1 : Nat) (A2 : Option Addr) (c2 : Nat) (S2 : Option Addr) (p2 : Nat) (P2 : Option Addr) (q2 : Nat) (aD : Nat) (V : World), Below x11.heap.size x11 V → InW [aD] V → Hid (RwAt V (Out [aD]) (.slice A2 rb c2) (accT nn (accT nn [] a) b)) → Hid (DkAt V (Out [aD]) (.slice S2 nn p2) (.slice P2 0 q2) ⟨E3, [], -1, false⟩) → x11.heap.size ≤ aD → Box V aD [.slice none 0 0, .slice none 0 0, .int .i64 0, .bool false] → F 4 #[true, true, true, true, true, true, true, true, true, true, false, true, false, false, false] (((((((a0.put (some 80) (.agg #[.slice A1 rb c1, .int .i64 (nn : Int), .int .i64 (ra : Int)])).put (some 82) (.tuple #[.agg #[.slice A2 rb c2, .int .i64 (nn : Int), .int .i64 (rb : Int)], .agg #[.slice S2 nn p2, .slice P2 0 q2, .int .i64 (-1), .bool false], .int .i64 0])).put (some 76) (.tuple #[.agg #[.slice A2 rb c2, .int .i64 (nn : Int), .int .i64 (rb : Int)], .agg #[.slice S2 nn p2, .slice P2 0 q2, .int .i64 (-1), .bool false], .int .i64 0])).put (some 83) (.agg #[.slice A2 rb c2, .int .i64 (nn : Int), .int .i64 (rb : Int)])).put (some 84) (.agg #[.slice S2 nn p2, .slice P2 0 q2, .int .i64 (-1), .bool false])).put (some 85) (.int .i64 0)).put (some 17) (.pointer (some ⟨aD, 0, none⟩))) V := by
      intro A1 c1 A2 c2 S2 p2 P2 q2 aD V h hL RR DD gD BD
      subst hF
      refine anyG_alone (n := 3) (i := 10) (by kernel_rfl) (fun _ => Later.mk' h) ?_
      refine wpOp_valD (some 16) (v := .pointer (some ⟨V.heap.size, 0, none⟩)) (w' := V.alloc (.cells #[.slice none 0 0, .int .i64 0, .int .i64 0] 29)) (by rfl) rfl rfl ?_ ?_
      · subst ha0
        try simp only [Act.put, List.setIfInBounds_toArray, List.set_cons_zero, List.set_cons_succ]
        go_simp
      have hst := (Below.refl V.heap.size V).alloc (Nat.le_refl _) (.cells #[.slice none 0 0, .int .i64 0, .int .i64 0] 29)
      have hq := T3JD A1 c1 A2 c2 S2 p2 P2 q2 V.heap.size aD (V.alloc (.cells #[.slice none 0 0, .int .i64 0, .int .i64 0] 29)) (h.alloc h.size (.cells #[.slice none 0 0, .int .i64 0, .int .i64 0] 29)) ((hL.later hst.size).cons (a := V.heap.size) (by simp)) (rw_later (rw_more (a := V.heap.size) (Nat.le_refl _) RR) hst) (dk_later (dk_more (a := V.heap.size) (Nat.le_refl _) DD) hst) h.size (Box.new V [.slice none 0 0, .int .i64 0, .int .i64 0] 29) gD (BD.later hst) (Nat.ne_of_gt BD.lt)
      subst ha0
      simp only [Act.put, List.setIfInBounds_toArray, List.set_cons_zero, List.set_cons_succ] at hq ⊢
      exact hq
    have T3O : ∀ (A1 : Option Addr) (c1 : Nat) (A2 : Option Addr) (c2 : Nat) (S2 : Option Addr) (p2 : Nat) (P2 : Option Addr) (q2 : Nat) (V : World), Below x11.heap.size x11 V → InW [] V → Hid (RwAt V (Out []) (.slice A2 rb c2) (accT nn (accT nn [] a) b)) → Hid (DkAt V (Out []) (.slice S2 nn p2) (.slice P2 0 q2) ⟨E3, [], -1, false⟩) → F 5 #[true, true, true, true, true, true, true, true, true, true, false, false, false, false, false] ((((((a0.put (some 80) (.agg #[.slice A1 rb c1, .int .i64 (nn : Int), .int .i64 (ra : Int)])).put (some 82) (.tuple #[.agg #[.slice A2 rb c2, .int .i64 (nn : Int), .int .i64 (rb : Int)], .agg #[.slice S2 nn p2, .slice P2 0 q2, .int .i64 (-1), .bool false], .int .i64 0])).put (some 76) (.tuple #[.agg #[.slice A2 rb c2, .int .i64 (nn : Int), .int .i64 (rb : Int)], .agg #[.slice S2 nn p2, .slice P2 0 q2, .int .i64 (-1), .bool false], .int .i64 0])).put (some 83) (.agg #[.slice A2 rb c2, .int .i64 (nn : Int), .int .i64 (rb : Int)])).put (some 84) (.agg #[.slice S2 nn p2, .slice P2 0 q2, .int .i64 (-1), .bool false])).put (some 85) (.int .i64 0)) V := by
      intro A1 c1 A2 c2 S2 p2 P2 q2 V h hL RR DD
      subst hF
      refine anyG_two (n := 4) (i := 10) (j := 11) (by kernel_rfl) (fun _ => Later.mk' h) ?_ ?_
      · skip
        refine wpOp_valD (some 16) (v := .pointer (some ⟨V.heap.size, 0, none⟩)) (w' := V.alloc (.cells #[.slice none 0 0, .int .i64 0, .int .i64 0] 29)) (by rfl) rfl rfl ?_ ?_
        · subst ha0
          try simp only [Act.put, List.setIfInBounds_toArray, List.set_cons_zero, List.set_cons_succ]
          go_simp
        have hst := (Below.refl V.heap.size V).alloc (Nat.le_refl _) (.cells #[.slice none 0 0, .int .i64 0, .int .i64 0] 29)
        have hq := T3J A1 c1 A2 c2 S2 p2 P2 q2 V.heap.size (V.alloc (.cells #[.slice none 0 0, .int .i64 0, .int .i64 0] 29)) (h.alloc h.size (.cells #[.slice none 0 0, .int .i64 0, .int .i64 0] 29)) ((hL.later hst.size).cons (a := V.heap.size) (by simp)) (rw_later (rw_more (a := V.heap.size) (Nat.le_refl _) RR) hst) (dk_later (dk_more (a := V.heap.size) (Nat.le_refl _) DD) hst) h.size (Box.new V [.slice none 0 0, .int .i64 0, .int .i64 0] 29)
        subst ha0
        simp only [Act.put, List.setIfInBounds_toArray, List.set_cons_zero, List.set_cons_succ] at hq ⊢
        exact hq
      · skip
        refine wpOp_valD (some 17) (v := .pointer (some ⟨V.heap.size, 0, none⟩)) (w' := V.alloc (.cells #[.slice none 0 0, .slice none 0 0, .int .i64 0, .bool false] 25)) (by rfl) rfl rfl ?_ ?_
        · subst ha0
          try simp only [Act.put, List.setIfInBounds_toArray, List.set_cons_zero, List.set_cons_succ]
          go_simp
        have hst := (Below.refl V.heap.size V).alloc (Nat.le_refl _) (.cells #[.slice none 0 0, .slice none 0 0, .int .i64 0, .bool false] 25)
        have hq := T3D A1 c1 A2 c2 S2 p2 P2 q2 V.heap.size (V.alloc (.cells #[.slice none 0 0, .slice none 0 0, .int .i64 0, .bool false] 25)) (h.alloc h.size (.cells #[.slice none 0 0, .slice none 0 0, .int .i64 0, .bool false] 25)) ((hL.later hst.size).cons (a := V.heap.size) (by simp)) (rw_later (rw_more (a := V.heap.size) (Nat.le_refl _) RR) hst) (dk_later (dk_more (a := V.heap.size) (Nat.le_refl _) DD) hst) h.size (Box.new V [.slice none 0 0, .slice none 0 0, .int .i64 0, .bool false] 25)
        subst ha0
        simp only [Act.put, List.setIfInBounds_toArray, List.set_cons_zero, List.set_cons_succ] at hq ⊢
        exact hq
    have T2JD : ∀ (A1 : Option Addr) (c1 : Nat) (A2 : Option Addr) (c2 : Nat) (S2 : Option Addr) (p2 : Nat) (P2 : Option Addr) (q2 : Nat) (aJ : Nat) (aD : Nat) (V : World), Below x11.heap.size x11 V → InW [aJ, aD] V → Hid (RwAt V (Out [aJ, aD]) (.slice A2 rb c2) (accT nn (accT nn [] a) b)) → Hid (DkAt V (Out [aJ, aD]) (.slice S2 nn p2) (.slice P2 0 q2) ⟨E3, [], -1, false⟩) → x11.heap.size ≤ aJ → Box V aJ [.slice none 0 0, .int .i64 0, .int .i64 0] → x11.heap.size ≤ aD → Box V aD [.slice none 0 0, .slice none 0 0, .int .i64 0, .bool false] → aJ ≠ aD → F 7 #[true, true, true, true, true, true, false, false, false, false, true, true, false, false, false] ((((a0.put (some 80) (.agg #[.slice A1 rb c1, .int .i64 (nn : Int), .int .i64 (ra : Int)])).put (some 82) (.tuple #[.agg #[.slice A2 rb c2, .int .i64 (nn : Int), .int .i64 (rb : Int)], .agg #[.slice S2 nn p2, .slice P2 0 q2, .int .i64 (-1), .bool false], .int .i64 0])).put (some 16) (.pointer (some ⟨aJ, 0, none⟩))).put (some 17) (.pointer (some ⟨aD, 0, none⟩))) V := by
      intro A1 c1 A2 c2 S2 p2 P2 q2 aJ aD V h hL RR DD gJ BJ gD BD hne
      subst hF
      subst ha0
      simp only [Act.put, List.setIfInBounds_toArray, List.set_cons_zero, List.set_cons_succ]
      refine anyG_pures (by kernel_rfl) 3 V [6, 7, 8, 9] _ _ ?_ (fun _ => Later.mk' h) (by kernel_rfl) (by kernel_rfl) ?_
      · exact closed_of (by kernel_rfl)
      simp only [headOps, List.filterMap_cons, List.filterMap_nil, List.getElem?_toArray, List.getElem?_cons_succ, List.getElem?_cons_zero]
      repeat (first | go_big_quiet_skip | (show wpQuiet _ _ _ _ (_ :: _) _; go_big_quiet_skip) | (show wpQuiet _ _ _ _ (_ :: _) _; go_big_quiet_want; go_big_quiet_op; go_big_quiet_on))
      refine wpQuiet_nil ?_
      have hq := T3JD A1 c1 A2 c2 S2 p2 P2 q2 aJ aD V h hL RR DD gJ BJ gD BD hne
      simp only [Act.put, List.setIfInBounds_toArray, List.set_cons_zero, List.set_cons_succ] at hq
      exact hq
    have T2J : ∀ (A1 : Option Addr) (c1 : Nat) (A2 : Option Addr) (c2 : Nat) (S2 : Option Addr) (p2 : Nat) (P2 : Option Addr) (q2 : Nat) (aJ : Nat) (V : World), Below x11.heap.size x11 V → InW [aJ] V → Hid (RwAt V (Out [aJ]) (.slice A2 rb c2) (accT nn (accT nn [] a) b)) → Hid (DkAt V (Out [aJ]) (.slice S2 nn p2) (.slice P2 0 q2) ⟨E3, [], -1, false⟩) → x11.heap.size ≤ aJ → Box V aJ [.slice none 0 0, .int .i64 0, .int .i64 0] → F 8 #[true, true, true, true, true, true, false, false, false, false, true, false, false, false, false] (((a0.put (some 80) (.agg #[.slice A1 rb c1, .int .i64 (nn : Int), .int .i64 (ra : Int)])).put (some 82) (.tuple #[.agg #[.slice A2 rb c2, .int .i64 (nn : Int), .int .i64 (rb : Int)], .agg #[.slice S2 nn p2, .slice P2 0 q2, .int .i64 (-1), .bool false], .int .i64 0])).put (some 16) (.pointer (some ⟨aJ, 0, none⟩))) V := by
      intro A1 c1 A2 c2 S2 p2 P2 q2 aJ V h hL RR DD gJ BJ
      subst hF
      subst ha0
      simp only [Act.put, List.setIfInBounds_toArray, List.set_cons_zero, List.set_cons_succ]
      refine anyG_pures (by kernel_rfl) 4 V [6, 7, 8, 9] _ _ ?_ (fun _ => Later.mk' h) (by kernel_rfl) (by kernel_rfl) ?_
      · exact closed_of (by kernel_rfl)
      simp only [headOps, List.filterMap_cons, List.filterMap_nil, List.getElem?_toArray, List.getElem?_cons_succ, List.getElem?_cons_zero]
      repeat (first | go_big_quiet_skip | (show wpQuiet _ _ _ _ (_ :: _) _; go_big_quiet_skip) | (show wpQuiet _ _ _ _ (_ :: _) _; go_big_quiet_want; go_big_quiet_op; go_big_quiet_on))
      refine wpQuiet_nil ?_
      have hq := T3J A1 c1 A2 c2 S2 p2 P2 q2 aJ V h hL RR DD gJ BJ
      simp only [Act.put, List.setIfInBounds_toArray, List.set_cons_zero, List.set_cons_succ] at hq
      exact hq
    have T2D : ∀ (A1 : Option Addr) (c1 : Nat) (A2 : Option Addr) (c2 : Nat) (S2 : Option Addr) (p2 : Nat) (P2 : Option Addr) (q2 : Nat) (aD : Nat) (V : World), Below x11.heap.size x11 V → InW [aD] V → Hid (RwAt V (Out [aD]) (.slice A2 rb c2) (accT nn (accT nn [] a) b)) → Hid (DkAt V (Out [aD]) (.slice S2 nn p2) (.slice P2 0 q2) ⟨E3, [], -1, false⟩) → x11.heap.size ≤ aD → Box V aD [.slice none 0 0, .slice none 0 0, .int .i64 0, .bool false] → F 8 #[true, true, true, true, true, true, false, false, false, false, false, true, false, false, false] (((a0.put (some 80) (.agg #[.slice A1 rb c1, .int .i64 (nn : Int), .int .i64 (ra : Int)])).put (some 82) (.tuple #[.agg #[.slice A2 rb c2, .int .i64 (nn : Int), .int .i64 (rb : Int)], .agg #[.slice S2 nn p2, .slice P2 0 q2, .int .i64 (-1), .bool false], .int .i64 0])).put (some 17) (.pointer (some ⟨aD, 0, none⟩))) V := by
      intro A1 c1 A2 c2 S2 p2 P2 q2 aD V h hL RR DD gD BD
      subst hF
      subst ha0
      simp only [Act.put, List.setIfInBounds_toArray, List.set_cons_zero, List.set_cons_succ]
      refine anyG_pures (by kernel_rfl) 4 V [6, 7, 8, 9] _ _ ?_ (fun _ => Later.mk' h) (by kernel_rfl) (by kernel_rfl) ?_
      · exact closed_of (by kernel_rfl)
      simp only [headOps, List.filterMap_cons, List.filterMap_nil, List.getElem?_toArray, List.getElem?_cons_succ, List.getElem?_cons_zero]
      repeat (first | go_big_quiet_skip | (show wpQuiet _ _ _ _ (_ :: _) _; go_big_quiet_skip) | (show wpQuiet _ _ _ _ (_ :: _) _; go_big_quiet_want; go_big_quiet_op; go_big_quiet_on))
      refine wpQuiet_nil ?_
      have hq := T3D A1 c1 A2 c2 S2 p2 P2 q2 aD V h hL RR DD gD BD
      simp only [Act.put, List.setIfInBounds_toArray, List.set_cons_zero, List.set_cons_succ] at hq
      exact hq
    have T2O : ∀ (A1 : Option Addr) (c1 : Nat) (A2 : Option Addr) (c2 : Nat) (S2 : Option Addr) (p2 : Nat) (P2 : Option Addr) (q2 : Nat) (V : World), Below x11.heap.size x11 V → InW [] V → Hid (RwAt V (Out []) (.slice A2 rb c2) (accT nn (accT nn [] a) b)) → Hid (DkAt V (Out []) (.slice S2 nn p2) (.slice P2 0 q2) ⟨E3, [], -1, false⟩) → F 9 #[true, true, true, true, true, true, false, false, false, false, false, false, false, false, false] ((a0.put (some 80) (.agg #[.slice A1 rb c1, .int .i64 (nn : Int), .int .i64 (ra : Int)])).put (some 82) (.tuple #[.agg #[.slice A2 rb c2, .int .i64 (nn : Int), .int .i64 (rb : Int)], .agg #[.slice S2 nn p2, .slice P2 0 q2, .int .i64 (-1), .bool false], .int .i64 0])) V := by
      intro A1 c1 A2 c2 S2 p2 P2 q2 V h hL RR DD
      subst hF
      subst ha0
      simp only [Act.put, List.setIfInBounds_toArray, List.set_cons_zero, List.set_cons_succ]
      refine anyG_pures (by kernel_rfl) 5 V [6, 7, 8, 9] _ _ ?_ (fun _ => Later.mk' h) (by kernel_rfl) (by kernel_rfl) ?_
      · exact closed_of (by kernel_rfl)
      simp only [headOps, List.filterMap_cons, List.filterMap_nil, List.getElem?_toArray, List.getElem?_cons_succ, List.getElem?_cons_zero]
      repeat (first | go_big_quiet_skip | (show wpQuiet _ _ _ _ (_ :: _) _; go_big_quiet_skip) | (show wpQuiet _ _ _ _ (_ :: _) _; go_big_quiet_want; go_big_quiet_op; go_big_quiet_on))
      refine wpQuiet_nil ?_
      have hq := T3O A1 c1 A2 c2 S2 p2 P2 q2 V h hL RR DD
      simp only [Act.put, List.setIfInBounds_toArray, List.set_cons_zero, List.set_cons_succ] at hq
      exact hq
    have T1JD : ∀ (A1 : Option Addr) (c1 : Nat) (aJ : Nat) (aD : Nat) (V : World), Below x11.heap.size x11 V → InW [aJ, aD] V → Hid (DkAt V (Out [aJ, aD]) (.slice Sx nn px) (.slice Px 0 qx) ⟨E2, [], -1, false⟩) → Hid (RwAt V (Out [aJ, aD]) (.slice A1 rb c1) (accT nn (accT nn [] a) b)) → x11.heap.size ≤ aJ → Box V aJ [.slice none 0 0, .int .i64 0, .int .i64 0] → x11.heap.size ≤ aD → Box V aD [.slice none 0 0, .slice none 0 0, .int .i64 0, .bool false] → aJ ≠ aD → F 8 #[true, true, true, true, true, false, false, false, false, false, true, true, false, false, false] (((a0.put (some 80) (.agg #[.slice A1 rb c1, .int .i64 (nn : Int), .int .i64 (ra : Int)])).put (some 16) (.pointer (some ⟨aJ, 0, none⟩))).put (some 17) (.pointer (some ⟨aD, 0, none⟩))) V := by
      intro A1 c1 aJ aD V h hL DX R1 gJ BJ gD BD hne
      subst hF
      refine anyG_alone (n := 7) (i := 5) (by kernel_rfl) (fun _ => Later.mk' h) ?_
      refine wpOp_callD (some 82) (by rfl) rfl rfl ?_ ((jSyncA (s := ra) hL (Lib.hid (by rw [← HRA.out]; exact ST.out.k4)) HRB (Lib.hid (by rw [← HRA.out]; exact ST.out.y3)) (Lib.hid ST.out.l2) (Lib.hid ST.out.l3) R1 DX).mono ?_)
      · subst ha0
        try simp only [Act.put, List.setIfInBounds_toArray, List.set_cons_zero, List.set_cons_succ]
        go_simp
      rintro e V2 ⟨A2, c2, S2, p2, P2, q2, rfl, RR, DD, hb⟩
      refine ⟨_, rfl, ?_⟩
      have hq := T2JD A1 c1 A2 c2 S2 p2 P2 q2 aJ aD V2 (h.trans (hb.mono h.size)) (hL.later hb.size) RR DD gJ (BJ.later hb) gD (BD.later hb) hne
      subst ha0
      simp only [Act.put, List.setIfInBounds_toArray, List.set_cons_zero, List.set_cons_succ] at hq ⊢
      exact hq
    have T1J : ∀ (A1 : Option Addr) (c1 : Nat) (aJ : Nat) (V : World), Below x11.heap.size x11 V → InW [aJ] V → Hid (DkAt V (Out [aJ]) (.slice Sx nn px) (.slice Px 0 qx) ⟨E2, [], -1, false⟩) → Hid (RwAt V (Out [aJ]) (.slice A1 rb c1) (accT nn (accT nn [] a) b)) → x11.heap.size ≤ aJ → Box V aJ [.slice none 0 0, .int .i64 0, .int .i64 0] → F 9 #[true, true, true, true, true, false, false, false, false, false, true, false, false, false, false] ((a0.put (some 80) (.agg #[.slice A1 rb c1, .int .i64 (nn : Int), .int .i64 (ra : Int)])).put (some 16) (.pointer (some ⟨aJ, 0, none⟩))) V := by
      intro A1 c1 aJ V h hL DX R1 gJ BJ
      subst hF
      refine anyG_two (n := 8) (i := 5) (j := 11) (by kernel_rfl) (fun _ => Later.mk' h) ?_ ?_
      · skip
        refine wpOp_callD (some 82) (by rfl) rfl rfl ?_ ((jSyncA (s := ra) hL (Lib.hid (by rw [← HRA.out]; exact ST.out.k4)) HRB (Lib.hid (by rw [← HRA.out]; exact ST.out.y3)) (Lib.hid ST.out.l2) (Lib.hid ST.out.l3) R1 DX).mono ?_)
        · subst ha0
          try simp only [Act.put, List.setIfInBounds_toArray, List.set_cons_zero, List.set_cons_succ]
          go_simp
        rintro e V2 ⟨A2, c2, S2, p2, P2, q2, rfl, RR, DD, hb⟩
        refine ⟨_, rfl, ?_⟩
        have hq := T2J A1 c1 A2 c2 S2 p2 P2 q2 aJ V2 (h.trans (hb.mono h.size)) (hL.later hb.size) RR DD gJ (BJ.later hb)
        subst ha0
        simp only [Act.put, List.setIfInBounds_toArray, List.set_cons_zero, List.set_cons_succ] at hq ⊢
        exact hq
      · skip
        refine wpOp_valD (some 17) (v := .pointer (some ⟨V.heap.size, 0, none⟩)) (w' := V.alloc (.cells #[.slice none 0 0, .slice none 0 0, .int .i64 0, .bool false] 25)) (by rfl) rfl rfl ?_ ?_
        · subst ha0
          try simp only [Act.put, List.setIfInBounds_toArray, List.set_cons_zero, List.set_cons_succ]
          go_simp
        have hst := (Below.refl V.heap.size V).alloc (Nat.le_refl _) (.cells #[.slice none 0 0, .slice none 0 0, .int .i64 0, .bool false] 25)
        have hq := T1JD A1 c1 aJ V.heap.size (V.alloc (.cells #[.slice none 0 0, .slice none 0 0, .int .i64 0, .bool false] 25)) (h.alloc h.size (.cells #[.slice none 0 0, .slice none 0 0, .int .i64 0, .bool false] 25)) (inW_swap ((hL.later hst.size).cons (a := V.heap.size) (by simp))) (dk_swap (dk_later (dk_more (a := V.heap.size) (Nat.le_refl _) DX) hst)) (rw_swap (rw_later (rw_more (a := V.heap.size) (Nat.le_refl _) R1) hst)) gJ (BJ.later hst) h.size (Box.new V [.slice none 0 0, .slice none 0 0, .int .i64 0, .bool false] 25) (Nat.ne_of_lt BJ.lt)
        subst ha0
        simp only [Act.put, List.setIfInBounds_toArray, List.set_cons_zero, List.set_cons_succ] at hq ⊢
        exact hq
    have T1D : ∀ (A1 : Option Addr) (c1 : Nat) (aD : Nat) (V : World), Below x11.heap.size x11 V → InW [aD] V → Hid (DkAt V (Out [aD]) (.slice Sx nn px) (.slice Px 0 qx) ⟨E2, [], -1, false⟩) → Hid (RwAt V (Out [aD]) (.slice A1 rb c1) (accT nn (accT nn [] a) b)) → x11.heap.size ≤ aD → Box V aD [.slice none 0 0, .slice none 0 0, .int .i64 0, .bool false] → F 9 #[true, true, true, true, true, false, false, false, false, false, false, true, false, false, false] ((a0.put (some 80) (.agg #[.slice A1 rb c1, .int .i64 (nn : Int), .int .i64 (ra : Int)])).put (some 17) (.pointer (some ⟨aD, 0, none⟩))) V := by
      intro A1 c1 aD V h hL DX R1 gD BD
      subst hF
      refine anyG_two (n := 8) (i := 5) (j := 10) (by kernel_rfl) (fun _ => Later.mk' h) ?_ ?_
      · skip
        refine wpOp_callD (some 82) (by rfl) rfl rfl ?_ ((jSyncA (s := ra) hL (Lib.hid (by rw [← HRA.out]; exact ST.out.k4)) HRB (Lib.hid (by rw [← HRA.out]; exact ST.out.y3)) (Lib.hid ST.out.l2) (Lib.hid ST.out.l3) R1 DX).mono ?_)
        · subst ha0
          try simp only [Act.put, List.setIfInBounds_toArray, List.set_cons_zero, List.set_cons_succ]
          go_simp
        rintro e V2 ⟨A2, c2, S2, p2, P2, q2, rfl, RR, DD, hb⟩
        refine ⟨_, rfl, ?_⟩
        have hq := T2D A1 c1 A2 c2 S2 p2 P2 q2 aD V2 (h.trans (hb.mono h.size)) (hL.later hb.size) RR DD gD (BD.later hb)
        subst ha0
        simp only [Act.put, List.setIfInBounds_toArray, List.set_cons_zero, List.set_cons_succ] at hq ⊢
        exact hq
      · skip
        refine wpOp_valD (some 16) (v := .pointer (some ⟨V.heap.size, 0, none⟩)) (w' := V.alloc (.cells #[.slice none 0 0, .int .i64 0, .int .i64 0] 29)) (by rfl) rfl rfl ?_ ?_
        · subst ha0
          try simp only [Act.put, List.setIfInBounds_toArray, List.set_cons_zero, List.set_cons_succ]
          go_simp
        have hst := (Below.refl V.heap.size V).alloc (Nat.le_refl _) (.cells #[.slice none 0 0, .int .i64 0, .int .i64 0] 29)
        have hq := T1JD A1 c1 V.heap.size aD (V.alloc (.cells #[.slice none 0 0, .int .i64 0, .int .i64 0] 29)) (h.alloc h.size (.cells #[.slice none 0 0, .int .i64 0, .int .i64 0] 29)) ((hL.later hst.size).cons (a := V.heap.size) (by simp)) (dk_later (dk_more (a := V.heap.size) (Nat.le_refl _) DX) hst) (rw_later (rw_more (a := V.heap.size) (Nat.le_refl _) R1) hst) h.size (Box.new V [.slice none 0 0, .int .i64 0, .int .i64 0] 29) gD (BD.later hst) (Nat.ne_of_gt BD.lt)
        subst ha0
        simp only [Act.put, List.setIfInBounds_toArray, List.set_cons_zero, List.set_cons_succ] at hq ⊢
        exact hq
    have T1O : ∀ (A1 : Option Addr) (c1 : Nat) (V : World), Below x11.heap.size x11 V → InW [] V → Hid (DkAt V (Out []) (.slice Sx nn px) (.slice Px 0 qx) ⟨E2, [], -1, false⟩) → Hid (RwAt V (Out []) (.slice A1 rb c1) (accT nn (accT nn [] a) b)) → F 10 #[true, true, true, true, true, false, false, false, false, false, false, false, false, false, false] (a0.put (some 80) (.agg #[.slice A1 rb c1, .int .i64 (nn : Int), .int .i64 (ra : Int)])) V := by
      intro A1 c1 V h hL DX R1
      subst hF
      refine anyG_three (n := 9) (i := 5) (j := 10) (l := 11) (by kernel_rfl) (fun _ => Later.mk' h) ?_ ?_ ?_
      · skip
        refine wpOp_callD (some 82) (by rfl) rfl rfl ?_ ((jSyncA (s := ra) hL (Lib.hid (by rw [← HRA.out]; exact ST.out.k4)) HRB (Lib.hid (by rw [← HRA.out]; exact ST.out.y3)) (Lib.hid ST.out.l2) (Lib.hid ST.out.l3) R1 DX).mono ?_)
        · subst ha0
          try simp only [Act.put, List.setIfInBounds_toArray, List.set_cons_zero, List.set_cons_succ]
          go_simp
        rintro e V2 ⟨A2, c2, S2, p2, P2, q2, rfl, RR, DD, hb⟩
        refine ⟨_, rfl, ?_⟩
        have hq := T2O A1 c1 A2 c2 S2 p2 P2 q2 V2 (h.trans (hb.mono h.size)) (hL.later hb.size) RR DD
        subst ha0
        simp only [Act.put, List.setIfInBounds_toArray, List.set_cons_zero, List.set_cons_succ] at hq ⊢
        exact hq
      · skip
        refine wpOp_valD (some 16) (v := .pointer (some ⟨V.heap.size, 0, none⟩)) (w' := V.alloc (.cells #[.slice none 0 0, .int .i64 0, .int .i64 0] 29)) (by rfl) rfl rfl ?_ ?_
        · subst ha0
          try simp only [Act.put, List.setIfInBounds_toArray, List.set_cons_zero, List.set_cons_succ]
          go_simp
        have hst := (Below.refl V.heap.size V).alloc (Nat.le_refl _) (.cells #[.slice none 0 0, .int .i64 0, .int .i64 0] 29)
        have hq := T1J A1 c1 V.heap.size (V.alloc (.cells #[.slice none 0 0, .int .i64 0, .int .i64 0] 29)) (h.alloc h.size (.cells #[.slice none 0 0, .int .i64 0, .int .i64 0] 29)) ((hL.later hst.size).cons (a := V.heap.size) (by simp)) (dk_later (dk_more (a := V.heap.size) (Nat.le_refl _) DX) hst) (rw_later (rw_more (a := V.heap.size) (Nat.le_refl _) R1) hst) h.size (Box.new V [.slice none 0 0, .int .i64 0, .int .i64 0] 29)
        subst ha0
        simp only [Act.put, List.setIfInBounds_toArray, List.set_cons_zero, List.set_cons_succ] at hq ⊢
        exact hq
      · skip
        refine wpOp_valD (some 17) (v := .pointer (some ⟨V.heap.size, 0, none⟩)) (w' := V.alloc (.cells #[.slice none 0 0, .slice none 0 0, .int .i64 0, .bool false] 25)) (by rfl) rfl rfl ?_ ?_
        · subst ha0
          try simp only [Act.put, List.setIfInBounds_toArray, List.set_cons_zero, List.set_cons_succ]
          go_simp
        have hst := (Below.refl V.heap.size V).alloc (Nat.le_refl _) (.cells #[.slice none 0 0, .slice none 0 0, .int .i64 0, .bool false] 25)
        have hq := T1D A1 c1 V.heap.size (V.alloc (.cells #[.slice none 0 0, .slice none 0 0, .int .i64 0, .bool false] 25)) (h.alloc h.size (.cells #[.slice none 0 0, .slice none 0 0, .int .i64 0, .bool false] 25)) ((hL.later hst.size).cons (a := V.heap.size) (by simp)) (dk_later (dk_more (a := V.heap.size) (Nat.le_refl _) DX) hst) (rw_later (rw_more (a := V.heap.size) (Nat.le_refl _) R1) hst) h.size (Box.new V [.slice none 0 0, .slice none 0 0, .int .i64 0, .bool false] 25)
        subst ha0
        simp only [Act.put, List.setIfInBounds_toArray, List.set_cons_zero, List.set_cons_succ] at hq ⊢
        exact hq
    have T0JD : ∀ (aJ : Nat) (aD : Nat) (V : World), Below x11.heap.size x11 V → InW [aJ, aD] V → Hid (DkAt V (Out [aJ, aD]) (.slice Sx nn px) (.slice Px 0 qx) ⟨E2, [], -1, false⟩) → Hid (RwAt V (Out [aJ, aD]) (.slice Ao ra co) (accT nn [] a)) → Hid (RwAt V (Out [aJ, aD]) (.slice Ab nb cb) b) → x11.heap.size ≤ aJ → Box V aJ [.slice none 0 0, .int .i64 0, .int .i64 0] → x11.heap.size ≤ aD → Box V aD [.slice none 0 0, .slice none 0 0, .int .i64 0, .bool false] → aJ ≠ aD → F 9 #[true, true, true, false, true, false, false, false, false, false, true, true, false, false, false] ((a0.put (some 16) (.pointer (some ⟨aJ, 0, none⟩))).put (some 17) (.pointer (some ⟨aD, 0, none⟩))) V := by
      intro aJ aD V h hL DX RO hBr gJ BJ gD BD hne
      subst hF
      refine anyG_alone (n := 8) (i := 3) (by kernel_rfl) (fun _ => Later.mk' h) ?_
      refine wpOp_callD (some 80) (by rfl) rfl rfl ?_ ((jAddA (s := ra) hL (Lib.hid (by rw [← HRA.out]; exact ST.out.k3)) HRA RO hBr hnb hlb HRB).mono ?_)
      · subst ha0
        try simp only [Act.put, List.setIfInBounds_toArray, List.set_cons_zero, List.set_cons_succ]
        go_simp
      rintro e V2 ⟨A1, c1, rfl, R1, hb⟩
      refine ⟨_, rfl, ?_⟩
      have hq := T1JD A1 c1 aJ aD V2 (h.trans (hb.mono h.size)) (hL.later hb.size) (dk_later DX hb) R1 gJ (BJ.later hb) gD (BD.later hb) hne
      subst ha0
      simp only [Act.put, List.setIfInBounds_toArray, List.set_cons_zero, List.set_cons_succ] at hq ⊢
      exact hq
    have T0J : ∀ (aJ : Nat) (V : World), Below x11.heap.size x11 V → InW [aJ] V → Hid (DkAt V (Out [aJ]) (.slice Sx nn px) (.slice Px 0 qx) ⟨E2, [], -1, false⟩) → Hid (RwAt V (Out [aJ]) (.slice Ao ra co) (accT nn [] a)) → Hid (RwAt V (Out [aJ]) (.slice Ab nb cb) b) → x11.heap.size ≤ aJ → Box V aJ [.slice none 0 0, .int .i64 0, .int .i64 0] → F 10 #[true, true, true, false, true, false, false, false, false, false, true, false, false, false, false] (a0.put (some 16) (.pointer (some ⟨aJ, 0, none⟩))) V := by
      intro aJ V h hL DX RO hBr gJ BJ
      subst hF
      refine anyG_two (n := 9) (i := 3) (j := 11) (by kernel_rfl) (fun _ => Later.mk' h) ?_ ?_
      · skip
        refine wpOp_callD (some 80) (by rfl) rfl rfl ?_ ((jAddA (s := ra) hL (Lib.hid (by rw [← HRA.out]; exact ST.out.k3)) HRA RO hBr hnb hlb HRB).mono ?_)
        · subst ha0
          try simp only [Act.put, List.setIfInBounds_toArray, List.set_cons_zero, List.set_cons_succ]
          go_simp
        rintro e V2 ⟨A1, c1, rfl, R1, hb⟩
        refine ⟨_, rfl, ?_⟩
        have hq := T1J A1 c1 aJ V2 (h.trans (hb.mono h.size)) (hL.later hb.size) (dk_later DX hb) R1 gJ (BJ.later hb)
        subst ha0
        simp only [Act.put, List.setIfInBounds_toArray, List.set_cons_zero, List.set_cons_succ] at hq ⊢
        exact hq
      · skip
        refine wpOp_valD (some 17) (v := .pointer (some ⟨V.heap.size, 0, none⟩)) (w' := V.alloc (.cells #[.slice none 0 0, .slice none 0 0, .int .i64 0, .bool false] 25)) (by rfl) rfl rfl ?_ ?_
        · subst ha0
          try simp only [Act.put, List.setIfInBounds_toArray, List.set_cons_zero, List.set_cons_succ]
          go_simp
        have hst := (Below.refl V.heap.size V).alloc (Nat.le_refl _) (.cells #[.slice none 0 0, .slice none 0 0, .int .i64 0, .bool false] 25)
        have hq := T0JD aJ V.heap.size (V.alloc (.cells #[.slice none 0 0, .slice none 0 0, .int .i64 0, .bool false] 25)) (h.alloc h.size (.cells #[.slice none 0 0, .slice none 0 0, .int .i64 0, .bool false] 25)) (inW_swap ((hL.later hst.size).cons (a := V.heap.size) (by simp))) (dk_swap (dk_later (dk_more (a := V.heap.size) (Nat.le_refl _) DX) hst)) (rw_swap (rw_later (rw_more (a := V.heap.size) (Nat.le_refl _) RO) hst)) (rw_swap (rw_later (rw_more (a := V.heap.size) (Nat.le_refl _) hBr) hst)) gJ (BJ.later hst) h.size (Box.new V [.slice none 0 0, .slice none 0 0, .int .i64 0, .bool false] 25) (Nat.ne_of_lt BJ.lt)
        subst ha0
        simp only [Act.put, List.setIfInBounds_toArray, List.set_cons_zero, List.set_cons_succ] at hq ⊢
        exact hq
    have T0D : ∀ (aD : Nat) (V : World), Below x11.heap.size x11 V → InW [aD] V → Hid (DkAt V (Out [aD]) (.slice Sx nn px) (.slice Px 0 qx) ⟨E2, [], -1, false⟩) → Hid (RwAt V (Out [aD]) (.slice Ao ra co) (accT nn [] a)) → Hid (RwAt V (Out [aD]) (.slice Ab nb cb) b) → x11.heap.size ≤ aD → Box V aD [.slice none 0 0, .slice none 0 0, .int .i64 0, .bool false] → F 10 #[true, true, true, false, true, false, false, false, false, false, false, true, false, false, false] (a0.put (some 17) (.pointer (some ⟨aD, 0, none⟩))) V := by
      intro aD V h hL DX RO hBr gD BD
      subst hF
      refine anyG_two (n := 9) (i := 3) (j := 10) (by kernel_rfl) (fun _ => Later.mk' h) ?_ ?_
      · skip
        refine wpOp_callD (some 80) (by rfl) rfl rfl ?_ ((jAddA (s := ra) hL (Lib.hid (by rw [← HRA.out]; exact ST.out.k3)) HRA RO hBr hnb hlb HRB).mono ?_)
        · subst ha0
          try simp only [Act.put, List.setIfInBounds_toArray, List.set_cons_zero, List.set_cons_succ]
          go_simp
        rintro e V2 ⟨A1, c1, rfl, R1, hb⟩
        refine ⟨_, rfl, ?_⟩
        have hq := T1D A1 c1 aD V2 (h.trans (hb.mono h.size)) (hL.later hb.size) (dk_later DX hb) R1 gD (BD.later hb)
        subst ha0
        simp only [Act.put, List.setIfInBounds_toArray, List.set_cons_zero, List.set_cons_succ] at hq ⊢
        exact hq
      · skip
        refine wpOp_valD (some 16) (v := .pointer (some ⟨V.heap.size, 0, none⟩)) (w' := V.alloc (.cells #[.slice none 0 0, .int .i64 0, .int .i64 0] 29)) (by rfl) rfl rfl ?_ ?_
        · subst ha0
          try simp only [Act.put, List.setIfInBounds_toArray, List.set_cons_zero, List.set_cons_succ]
          go_simp
        have hst := (Below.refl V.heap.size V).alloc (Nat.le_refl _) (.cells #[.slice none 0 0, .int .i64 0, .int .i64 0] 29)
        have hq := T0JD V.heap.size aD (V.alloc (.cells #[.slice none 0 0, .int .i64 0, .int .i64 0] 29)) (h.alloc h.size (.cells #[.slice none 0 0, .int .i64 0, .int .i64 0] 29)) ((hL.later hst.size).cons (a := V.heap.size) (by simp)) (dk_later (dk_more (a := V.heap.size) (Nat.le_refl _) DX) hst) (rw_later (rw_more (a := V.heap.size) (Nat.le_refl _) RO) hst) (rw_later (rw_more (a := V.heap.size) (Nat.le_refl _) hBr) hst) h.size (Box.new V [.slice none 0 0, .int .i64 0, .int .i64 0] 29) gD (BD.later hst) (Nat.ne_of_gt BD.lt)
        subst ha0
        simp only [Act.put, List.setIfInBounds_toArray, List.set_cons_zero, List.set_cons_succ] at hq ⊢
        exact hq
    have T0O : ∀ (V : World), Below x11.heap.size x11 V → InW [] V → Hid (DkAt V (Out []) (.slice Sx nn px) (.slice Px 0 qx) ⟨E2, [], -1, false⟩) → Hid (RwAt V (Out []) (.slice Ao ra co) (accT nn [] a)) → Hid (RwAt V (Out []) (.slice Ab nb cb) b) → F 11 #[true, true, true, false, true, false, false, false, false, false, false, false, false, false, false] a0 V := by
      intro V h hL DX RO hBr
      subst hF
      refine anyG_three (n := 10) (i := 3) (j := 10) (l := 11) (by kernel_rfl) (fun _ => Later.mk' h) ?_ ?_ ?_
      · skip
        refine wpOp_callD (some 80) (by rfl) rfl rfl ?_ ((jAddA (s := ra) hL (Lib.hid (by rw [← HRA.out]; exact ST.out.k3)) HRA RO hBr hnb hlb HRB).mono ?_)
        · subst ha0
          try simp only [Act.put, List.setIfInBounds_toArray, List.set_cons_zero, List.set_cons_succ]
          go_simp
        rintro e V2 ⟨A1, c1, rfl, R1, hb⟩
        refine ⟨_, rfl, ?_⟩
        have hq := T1O A1 c1 V2 (h.trans (hb.mono h.size)) (hL.later hb.size) (dk_later DX hb) R1
        subst ha0
        simp only [Act.put, List.setIfInBounds_toArray, List.set_cons_zero, List.set_cons_succ] at hq ⊢
        exact hq
      · skip
        refine wpOp_valD (some 16) (v := .pointer (some ⟨V.heap.size, 0, none⟩)) (w' := V.alloc (.cells #[.slice none 0 0, .int .i64 0, .int .i64 0] 29)) (by rfl) rfl rfl ?_ ?_
        · subst ha0
          try simp only [Act.put, List.setIfInBounds_toArray, List.set_cons_zero, List.set_cons_succ]
          go_simp
        have hst := (Below.refl V.heap.size V).alloc (Nat.le_refl _) (.cells #[.slice none 0 0, .int .i64 0, .int .i64 0] 29)
        have hq := T0J V.heap.size (V.alloc (.cells #[.slice none 0 0, .int .i64 0, .int .i64 0] 29)) (h.alloc h.size (.cells #[.slice none 0 0, .int .i64 0, .int .i64 0] 29)) ((hL.later hst.size).cons (a := V.heap.size) (by simp)) (dk_later (dk_more (a := V.heap.size) (Nat.le_refl _) DX) hst) (rw_later (rw_more (a := V.heap.size) (Nat.le_refl _) RO) hst) (rw_later (rw_more (a := V.heap.size) (Nat.le_refl _) hBr) hst) h.size (Box.new V [.slice none 0 0, .int .i64 0, .int .i64 0] 29)
        subst ha0
        simp only [Act.put, List.setIfInBounds_toArray, List.set_cons_zero, List.set_cons_succ] at hq ⊢
        exact hq
      · skip
        refine wpOp_valD (some 17) (v := .pointer (some ⟨V.heap.size, 0, none⟩)) (w' := V.alloc (.cells #[.slice none 0 0, .slice none 0 0, .int .i64 0, .bool false] 25)) (by rfl) rfl rfl ?_ ?_
        · subst ha0
          try simp only [Act.put, List.setIfInBounds_toArray, List.set_cons_zero, List.set_cons_succ]
          go_simp
        have hst := (Below.refl V.heap.size V).alloc (Nat.le_refl _) (.cells #[.slice none 0 0, .slice none 0 0, .int .i64 0, .bool false] 25)
        have hq := T0D V.heap.size (V.alloc (.cells #[.slice none 0 0, .slice none 0 0, .int .i64 0, .bool false] 25)) (h.alloc h.size (.cells #[.slice none 0 0, .slice none 0 0, .int .i64 0, .bool false] 25)) ((hL.later hst.size).cons (a := V.heap.size) (by simp)) (dk_later (dk_more (a := V.heap.size) (Nat.le_refl _) DX) hst) (rw_later (rw_more (a := V.heap.size) (Nat.le_refl _) RO) hst) (rw_later (rw_more (a := V.heap.size) (Nat.le_refl _) hBr) hst) h.size (Box.new V [.slice none 0 0, .slice none 0 0, .int .i64 0, .bool false] 25)
        subst ha0
        simp only [Act.put, List.setIfInBounds_toArray, List.set_cons_zero, List.set_cons_succ] at hq ⊢
        exact hq
    have hl : headsL [0, 1, 2, 4] (Array.replicate 15 false) = #[true, true, true, false, true, false, false, false, false, false, false, false, false, false, false] := by kernel_rfl
    first | rw [hl] | skip
    exact T0O Wd hd (InW.nil Wd) DXt ROt hBrt
  case rest =>
  obtain ⟨Tt, Yy, At2, ct, Sy, py, Py, qy, rfl, rfl, rfl, XT, XY, RT, DY, hb⟩ := hcut
  obtain ⟨x12, rfl⟩ : ∃ x : World, x = wc := ⟨_, rfl⟩
  replace XD := XD.later hb
  replace XL := XL.later hb
  replace XB := XB.later hb
  replace XC := XC.later hb
  replace XO := XO.later hb
  replace XX := XX.later hb
  replace hA := rw_later hA hb
  replace hBr := rw_later hBr hb
  replace hD := dk_later hD hb
  replace hR := rw_later hR hb
  replace RB1 := rw_later RB1 hb
  replace DC := dk_later DC hb
  replace RO := rw_later RO hb
  replace DX := dk_later DX hb
  replace hB := hB.trans (hb.mono hB.size)
  clear hb
  go_upto_region 13 with fail
  obtain ⟨XTc0, XTc1, XTc2⟩ := XT.c3
  have XTz := XT.lt
  obtain ⟨XYc0, XYc1, XYc2, XYc3⟩ := XY.c4
  have XYz := XY.lt
  go_wp2_with fail
  clear XTc0 XTc1 XTc2 XTz XYc0 XYc1 XYc2 XYc3 XYz
  refine (jSyncA (Lx := []) (s := rb) (InW.nil _) (Lib.hid (by rw [← HRB.out]; exact ST.out.k5)) HRB (Lib.hid (by rw [← HRB.out]; exact ST.out.y4)) (Lib.hid ST.out.l3) (Lib.hid ST.out.l3) RT DY).mono ?_
  rintro e x13 ⟨Ag, cg, Sz, pz, Pz, qz, rfl, RG, DZ, hb⟩
  replace XD := XD.later hb
  replace XL := XL.later hb
  replace XB := XB.later hb
  replace XC := XC.later hb
  replace XO := XO.later hb
  replace XX := XX.later hb
  replace XT := XT.later hb
  replace XY := XY.later hb
  replace hA := rw_later hA hb
  replace hBr := rw_later hBr hb
  replace hD := dk_later hD hb
  replace hR := rw_later hR hb
  replace RB1 := rw_later RB1 hb
  replace DC := dk_later DC hb
  replace RO := rw_later RO hb
  replace DX := dk_later DX hb
  replace RT := rw_later RT hb
  replace DY := dk_later DY hb
  replace hB := hB.trans (hb.mono hB.size)
  clear hb
  go_upto_region 14 with fail
  have hb := ((Below.refl x13.heap.size x13).alloc (Nat.le_refl _) (.cells #[.slice Ag rb cg, .int .i64 (nn : Int), .int .i64 (rb : Int)] 29)).alloc (by simp) (.cells #[.slice Sz nn pz, .slice Pz 0 qz, .int .i64 (-1), .bool false] 25)
  have XG := (Box.new x13 [.slice Ag rb cg, .int .i64 (nn : Int), .int .i64 (rb : Int)] 29).alloc (.cells #[.slice Sz nn pz, .slice Pz 0 qz, .int .i64 (-1), .bool false] 25)
  have XZ := Box.newAt (w := x13.alloc (.cells #[.slice Ag rb cg, .int .i64 (nn : Int), .int .i64 (rb : Int)] 29)) (n := x13.heap.size + 1) [.slice Sz nn pz, .slice Pz 0 qz, .int .i64 (-1), .bool false] 25 (by simp)
  replace XD := XD.later hb
  replace XL := XL.later hb
  replace XB := XB.later hb
  replace XC := XC.later hb
  replace XO := XO.later hb
  replace XX := XX.later hb
  replace XT := XT.later hb
  replace XY := XY.later hb
  replace hA := rw_later hA hb
  replace hBr := rw_later hBr hb
  replace hD := dk_later hD hb
  replace hR := rw_later hR hb
  replace RB1 := rw_later RB1 hb
  replace DC := dk_later DC hb
  replace RO := rw_later RO hb
  replace DX := dk_later DX hb
  replace RT := rw_later RT hb
  replace DY := dk_later DY hb
  replace RG := rw_later RG hb
  replace DZ := dk_later DZ hb
  replace hB := hB.trans (hb.mono hB.size)
  clear hb
  generalize (x13.alloc (.cells #[.slice Ag rb cg, .int .i64 (nn : Int), .int .i64 (rb : Int)] 29)).alloc (.cells #[.slice Sz nn pz, .slice Pz 0 qz, .int .i64 (-1), .bool false] 25) = w14 at XG XZ hB XD XL XB XC XO XX XT XY hA hBr hD hR RB1 DC RO DX RT DY RG DZ ⊢
  generalize x13.heap.size + 1 = Zz at XZ ⊢
  generalize x13.heap.size = Gg at XG ⊢
  obtain ⟨XCc0, XCc1, XCc2, XCc3⟩ := XC.c4
  have XCz := XC.lt
  go_wp2_with fail
  clear XCc0 XCc1 XCc2 XCc3 XCz
  refine (jOpenA (Lx := []) (s := rb) (InW.nil _) (Lib.hid (by rw [← HRB.out]; exact ST.out.o1)) HRB DC).mono ?_
  rintro e x14 ⟨Am, cm, rfl, RM, hb⟩
  replace XD := XD.later hb
  replace XL := XL.later hb
  replace XB := XB.later hb
  replace XC := XC.later hb
  replace XO := XO.later hb
  replace XX := XX.later hb
  replace XT := XT.later hb
  replace XY := XY.later hb
  replace XG := XG.later hb
  replace XZ := XZ.later hb
  replace hA := rw_later hA hb
  replace hBr := rw_later hBr hb
  replace hD := dk_later hD hb
  replace hR := rw_later hR hb
  replace RB1 := rw_later RB1 hb
  replace DC := dk_later DC hb
  replace RO := rw_later RO hb
  replace DX := dk_later DX hb
  replace RT := rw_later RT hb
  replace DY := dk_later DY hb
  replace RG := rw_later RG hb
  replace DZ := dk_later DZ hb
  replace hB := hB.trans (hb.mono hB.size)
  clear hb
  go_upto_region 15 with fail
  have hb := (Below.refl x14.heap.size x14).alloc (Nat.le_refl _) (.cells #[.slice Am rb cm, .int .i64 (nn : Int), .int .i64 (rb : Int)] 29)
  have XM := Box.new x14 [.slice Am rb cm, .int .i64 (nn : Int), .int .i64 (rb : Int)] 29
  replace XD := XD.later hb
  replace XL := XL.later hb
  replace XB := XB.later hb
  replace XC := XC.later hb
  replace XO := XO.later hb
  replace XX := XX.later hb
  replace XT := XT.later hb
  replace XY := XY.later hb
  replace XG := XG.later hb
  replace XZ := XZ.later hb
  replace hA := rw_later hA hb
  replace hBr := rw_later hBr hb
  replace hD := dk_later hD hb
  replace hR := rw_later hR hb
  replace RB1 := rw_later RB1 hb
  replace DC := dk_later DC hb
  replace RO := rw_later RO hb
  replace DX := dk_later DX hb
  replace RT := rw_later RT hb
  replace DY := dk_later DY hb
  replace RG := rw_later RG hb
  replace DZ := dk_later DZ hb
  replace RM := rw_later RM hb
  replace hB := hB.trans (hb.mono hB.size)
  clear hb
  generalize x14.alloc (.cells #[.slice Am rb cm, .int .i64 (nn : Int), .int .i64 (rb : Int)] 29) = v10 at XM hB XD XL XB XC XO XX XT XY XG XZ hA hBr hD hR RB1 DC RO DX RT DY RG DZ RM ⊢
  generalize x14.heap.size = Mm at XM ⊢
  obtain ⟨XZc0, XZc1, XZc2, XZc3⟩ := XZ.c4
  have XZz := XZ.lt
  go_wp2_with fail
  clear XZc0 XZc1 XZc2 XZc3 XZz
  refine (jOpenA (Lx := []) (s := rb) (InW.nil _) (Lib.hid (by rw [← HRB.out]; exact ST.out.o3)) HRB DZ).mono ?_
  rintro e x15 ⟨An, cn, rfl, RN, hb⟩
  replace XD := XD.later hb
  replace XL := XL.later hb
  replace XB := XB.later hb
  replace XC := XC.later hb
  replace XO := XO.later hb
  replace XX := XX.later hb
  replace XT := XT.later hb
  replace XY := XY.later hb
  replace XG := XG.later hb
  replace XZ := XZ.later hb
  replace XM := XM.later hb
  replace hA := rw_later hA hb
  replace hBr := rw_later hBr hb
  replace hD := dk_later hD hb
  replace hR := rw_later hR hb
  replace RB1 := rw_later RB1 hb
  replace DC := dk_later DC hb
  replace RO := rw_later RO hb
  replace DX := dk_later DX hb
  replace RT := rw_later RT hb
  replace DY := dk_later DY hb
  replace RG := rw_later RG hb
  replace DZ := dk_later DZ hb
  replace RM := rw_later RM hb
  replace hB := hB.trans (hb.mono hB.size)
  clear hb
  go_upto_region 16 with fail
  have hb := (Below.refl x15.heap.size x15).alloc (Nat.le_refl _) (.cells #[.slice An rb cn, .int .i64 (nn : Int), .int .i64 (rb : Int)] 29)
  have XN := Box.new x15 [.slice An rb cn, .int .i64 (nn : Int), .int .i64 (rb : Int)] 29
  replace XD := XD.later hb
  replace XL := XL.later hb
  replace XB := XB.later hb
  replace XC := XC.later hb
  replace XO := XO.later hb
  replace XX := XX.later hb
  replace XT := XT.later hb
  replace XY := XY.later hb
  replace XG := XG.later hb
  replace XZ := XZ.later hb
  replace XM := XM.later hb
  replace hA := rw_later hA hb
  replace hBr := rw_later hBr hb
  replace hD := dk_later hD hb
  replace hR := rw_later hR hb
  replace RB1 := rw_later RB1 hb
  replace DC := dk_later DC hb
  replace RO := rw_later RO hb
  replace DX := dk_later DX hb
  replace RT := rw_later RT hb
  replace DY := dk_later DY hb
  replace RG := rw_later RG hb
  replace DZ := dk_later DZ hb
  replace RM := rw_later RM hb
  replace RN := rw_later RN hb
  replace hB := hB.trans (hb.mono hB.size)
  clear hb
  generalize x15.alloc (.cells #[.slice An rb cn, .int .i64 (nn : Int), .int .i64 (rb : Int)] 29) = v11 at XN hB XD XL XB XC XO XX XT XY XG XZ XM hA hBr hD hR RB1 DC RO DX RT DY RG DZ RM RN ⊢
  generalize x15.heap.size = Nn at XN ⊢
  have hjn : Hid (JnIs ⟨accT nn (accT nn [] a) b, nn, ((accT nn (accT nn [] a) b).length : Nat)⟩ rb nn rb) := Lib.hid ⟨HRB.out, rfl, by rw [← HRB.out]⟩
  have hr9 : rb ≤ 9223372036854775807 := by have h := RM.out.caps; omega
  obtain ⟨XBc0, XBc1, XBc2⟩ := XB.c3
  have XBz := XB.lt
  obtain ⟨XTc0, XTc1, XTc2⟩ := XT.c3
  have XTz := XT.lt
  go_wp2_with fail
  clear XBc0 XBc1 XBc2 XBz XTc0 XTc1 XTc2 XTz
  refine (jSame_at RB1 hjn RT hjn (Lib.hid (sameJ_refl _))).mono ?_
  rintro e z1 ⟨rfl, hb⟩
  replace XD := XD.later hb
  replace XL := XL.later hb
  replace XB := XB.later hb
  replace XC := XC.later hb
  replace XO := XO.later hb
  replace XX := XX.later hb
  replace XT := XT.later hb
  replace XY := XY.later hb
  replace XG := XG.later hb
  replace XZ := XZ.later hb
  replace XM := XM.later hb
  replace XN := XN.later hb
  replace hA := rw_later hA hb
  replace hBr := rw_later hBr hb
  replace hD := dk_later hD hb
  replace hR := rw_later hR hb
  replace RB1 := rw_later RB1 hb
  replace DC := dk_later DC hb
  replace RO := rw_later RO hb
  replace DX := dk_later DX hb
  replace RT := rw_later RT hb
  replace DY := dk_later DY hb
  replace RG := rw_later RG hb
  replace DZ := dk_later DZ hb
  replace RM := rw_later RM hb
  replace RN := rw_later RN hb
  replace hB := hB.trans (hb.mono hB.size)
  clear hb
  obtain ⟨XGc0, XGc1, XGc2⟩ := XG.c3
  have XGz := XG.lt
  obtain ⟨XTc0, XTc1, XTc2⟩ := XT.c3
  have XTz := XT.lt
  go_wp2_with fail
  clear XGc0 XGc1 XGc2 XGz XTc0 XTc1 XTc2 XTz
  refine (jSame_at RG hjn RT hjn (Lib.hid (sameJ_refl _))).mono ?_
  rintro e z2 ⟨rfl, hb⟩
  replace XD := XD.later hb
  replace XL := XL.later hb
  replace XB := XB.later hb
  replace XC := XC.later hb
  replace XO := XO.later hb
  replace XX := XX.later hb
  replace XT := XT.later hb
  replace XY := XY.later hb
  replace XG := XG.later hb
  replace XZ := XZ.later hb
  replace XM := XM.later hb
  replace XN := XN.later hb
  replace hA := rw_later hA hb
  replace hBr := rw_later hBr hb
  replace hD := dk_later hD hb
  replace hR := rw_later hR hb
  replace RB1 := rw_later RB1 hb
  replace DC := dk_later DC hb
  replace RO := rw_later RO hb
  replace DX := dk_later DX hb
  replace RT := rw_later RT hb
  replace DY := dk_later DY hb
  replace RG := rw_later RG hb
  replace DZ := dk_later DZ hb
  replace RM := rw_later RM hb
  replace RN := rw_later RN hb
  replace hB := hB.trans (hb.mono hB.size)
  clear hb
  obtain ⟨XMc0, XMc1, XMc2⟩ := XM.c3
  have XMz := XM.lt
  obtain ⟨XNc0, XNc1, XNc2⟩ := XN.c3
  have XNz := XN.lt
  go_wp2_with fail
  clear XMc0 XMc1 XMc2 XMz XNc0 XNc1 XNc2 XNz
  refine (jRSameRecs_any _ _ _ _ _ _ _ _ (Out []) (Out []) _ RM RN HRB HRB hr9 hr9 true (Lib.hid (decide_eq_true rfl))).mono ?_
  rintro e z3 ⟨rfl, hb⟩
  replace XD := XD.later hb
  replace XL := XL.later hb
  replace XB := XB.later hb
  replace XC := XC.later hb
  replace XO := XO.later hb
  replace XX := XX.later hb
  replace XT := XT.later hb
  replace XY := XY.later hb
  replace XG := XG.later hb
  replace XZ := XZ.later hb
  replace XM := XM.later hb
  replace XN := XN.later hb
  replace hA := rw_later hA hb
  replace hBr := rw_later hBr hb
  replace hD := dk_later hD hb
  replace hR := rw_later hR hb
  replace RB1 := rw_later RB1 hb
  replace DC := dk_later DC hb
  replace RO := rw_later RO hb
  replace DX := dk_later DX hb
  replace RT := rw_later RT hb
  replace DY := dk_later DY hb
  replace RG := rw_later RG hb
  replace DZ := dk_later DZ hb
  replace RM := rw_later RM hb
  replace RN := rw_later RN hb
  replace hB := hB.trans (hb.mono hB.size)
  clear hb
  obtain ⟨XMc0, XMc1, XMc2⟩ := XM.c3
  have XMz := XM.lt
  obtain ⟨XBc0, XBc1, XBc2⟩ := XB.c3
  have XBz := XB.lt
  go_wp2_with fail
  clear XMc0 XMc1 XMc2 XMz XBc0 XBc1 XBc2 XBz
  refine (jRSameRecs_any _ _ _ _ _ _ _ _ (Out []) (Out []) _ RM RB1 HRB HRB hr9 hr9 true (Lib.hid (decide_eq_true rfl))).mono ?_
  rintro e z4 ⟨rfl, hb⟩
  replace XD := XD.later hb
  replace XL := XL.later hb
  replace XB := XB.later hb
  replace XC := XC.later hb
  replace XO := XO.later hb
  replace XX := XX.later hb
  replace XT := XT.later hb
  replace XY := XY.later hb
  replace XG := XG.later hb
  replace XZ := XZ.later hb
  replace XM := XM.later hb
  replace XN := XN.later hb
  replace hA := rw_later hA hb
  replace hBr := rw_later hBr hb
  replace hD := dk_later hD hb
  replace hR := rw_later hR hb
  replace RB1 := rw_later RB1 hb
  replace DC := dk_later DC hb
  replace RO := rw_later RO hb
  replace DX := dk_later DX hb
  replace RT := rw_later RT hb
  replace DY := dk_later DY hb
  replace RG := rw_later RG hb
  replace DZ := dk_later DZ hb
  replace RM := rw_later RM hb
  replace RN := rw_later RN hb
  replace hB := hB.trans (hb.mono hB.size)
  clear hb
  obtain ⟨XYc0, XYc1, XYc2, XYc3⟩ := XY.c4
  have XYz := XY.lt
  obtain ⟨XZc0, XZc1, XZc2, XZc3⟩ := XZ.c4
  have XZz := XZ.lt
  go_wp2_with fail
  clear XYc0 XYc1 XYc2 XYc3 XYz XZc0 XZc1 XZc2 XZc3 XZz
  refine (dSame_is (d := ⟨E3, [], -1, false⟩) (a := ⟨E3, [], -1, false⟩) DY DZ ⟨rfl, rfl⟩ ⟨rfl, rfl⟩ (Lib.hid (sameD_refl _))).mono ?_
  rintro e z5 ⟨rfl, hb⟩
  replace XD := XD.later hb
  replace XL := XL.later hb
  replace XB := XB.later hb
  replace XC := XC.later hb
  replace XO := XO.later hb
  replace XX := XX.later hb
  replace XT := XT.later hb
  replace XY := XY.later hb
  replace XG := XG.later hb
  replace XZ := XZ.later hb
  replace XM := XM.later hb
  replace XN := XN.later hb
  replace hA := rw_later hA hb
  replace hBr := rw_later hBr hb
  replace hD := dk_later hD hb
  replace hR := rw_later hR hb
  replace RB1 := rw_later RB1 hb
  replace DC := dk_later DC hb
  replace RO := rw_later RO hb
  replace DX := dk_later DX hb
  replace RT := rw_later RT hb
  replace DY := dk_later DY hb
  replace RG := rw_later RG hb
  replace DZ := dk_later DZ hb
  replace RM := rw_later RM hb
  replace RN := rw_later RN hb
  replace hB := hB.trans (hb.mono hB.size)
  clear hb
  go_wp2
  go_ret
  exact ⟨rfl, hB⟩
theorem len_sumB : ∀ l : List Bs, l.length ≤ sumB l
  | [] => Nat.zero_le _
  | b :: l => by
    have h1 : sumB (b :: l) = sumB [b] + sumB l := sumB_append [b] l
    have h2 := sumB_mem (l := [b]) (k := 0) (by simp)
    have h3 := len_sumB l
    rw [h1, List.length_cons]
    omega
theorem all_short {l : List Bs} (h : sumB l ≤ 2000000) : ∀ x ∈ l, x.length ≤ 140737488351232 := fun x hx => by
  obtain ⟨k, hk, rfl⟩ := List.getElem_of_mem hx
  have := sumB_mem hk
  omega
theorem law_JournalSteps (a : List Bs) (Va : Value) (b : List Bs) (Vb : Value) (w : World) (hA : RwAt w (fun x => x < w.heap.size) Va a) (hsa : sumB a ≤ 2000000) (hB : RwAt w (fun x => x < w.heap.size) Vb b) (hsb : sumB b ≤ 2000000) :
    Calls Try.prog 8 #[Va, Vb] w fun e w' => e = .returned (.bool true) ∧ Below w.heap.size w w' := by
  obtain ⟨Aa, ca, rfl, _⟩ := hA.form
  obtain ⟨Ab, cb, rfl, _⟩ := hB.form
  obtain ⟨S1, S2, S3, h⟩ := steps_all (nn := 40) (by omega) (by omega) a b
  have h1 := len_sumB a
  have h2 := len_sumB b
  exact lawSteps 40 (Lib.hid rfl) a b _ S1 S2 S3 (Lib.hid h) (Lib.hid (new_is (n := 40) (by omega) (by omega))) Aa _ ca Ab _ cb w (live_rw hA) (live_rw hB) (Lib.hid rfl) (Lib.hid rfl) (Lib.hid (all_short hsa)) (Lib.hid (all_short hsb)) (Lib.hid (by omega))
end Go.Proofs.Ythlidhfahaalgaa
