/- BarrierEither. (Printed by gen_no.py and pp.py.) No condition. -/
import Derived.Test.YtancngachnpefaaQK
import Derived.Test.YtancngachnpefaaQNM
import Derived.Test.YtancngachnpefaaQMT
import Derived.Test.YtancngachnpefaaQUB
import Derived.Test.YtancngachnpefaaQMI
import Derived.Test.YtancngachnpefaaQNF
set_option linter.unusedVariables false
set_option linter.unusedSimpArgs false
set_option maxRecDepth 100000
set_option maxHeartbeats 8000000
namespace Go.Proofs.Ytancngachnpefaa
open Go.RowKit Go.Shelf
attribute [local go_sem] Oper.semAt_some
attribute [local go_sem ↓ high] app_named
def ShLs (w : World) (B : Nat) (v : Value) (l : List Sh) : Prop :=
  Sl w B 2 l.length (fun i j => match l[i]? with | some x => (if j = 0 then .int .i64 x.feed else .int .i64 x.msg) | none => undef) v
theorem ShLs.form {w : World} {B : Nat} {v : Value} {l : List Sh} (h : ShLs w B v l) : ∃ A c, v = .slice A l.length c ∧ l.length ≤ maxLen := by
  obtain ⟨A, c, hv, hn, _⟩ := h
  exact ⟨A, c, hv, hn⟩
theorem ShLs.at {w : World} {B : Nat} {A : Option Addr} {n c : Nat} {l : List Sh} (h : ShLs w B (.slice A n c) l) {k : Nat} (hk : k < l.length) :
    ∃ b off, A = some ⟨b, off, none⟩ ∧ b < B ∧ w.cell? ⟨b, off + k * 2, none⟩ = some (.int .i64 (l[k]).feed) ∧ w.cell? ⟨b, off + k * 2 + 1, none⟩ = some (.int .i64 (l[k]).msg) := by
  obtain ⟨A', c', hv, _, h1⟩ := h
  cases hv
  obtain ⟨b, off, rfl, hb, h3⟩ := h1 k hk
  have e : l[k]? = some l[k] := List.getElem?_eq_getElem hk
  have c0 := h3 0 (by omega)
  have c1 := h3 1 (by omega)
  simp only [e] at c0 c1
  exact ⟨b, off, rfl, hb, c0, by rw [Nat.add_assoc]; exact c1⟩
def memF (l : List St) : St → Bool := fun s => decide (s ∈ l)
theorem memF_snoc (l : List St) (s : St) : memF (l ++ [s]) = updB (memF l) s := by
  funext x
  unfold memF updB
  rw [Bool.eq_iff_iff]
  simp only [decide_eq_true_eq, Bool.or_eq_true, List.mem_append, List.mem_singleton]
  exact or_comm
theorem bar_nil0 (w : World) (B : Nat) : BarAt w B (.slice none 0 0) [] := ⟨none, 0, rfl, Nat.zero_le _, fun i hi => by simp at hi⟩
theorem go_in {p : Pl} {c : List Ln} (ha : askT p c = 0) : ∀ (l : List Sh) (s : St), s ∈ p.states → (∀ x ∈ l, x ∈ p.shocks) → ∀ z ∈ goT p c s l, z ∈ p.states
  | [], s, hs, _, z, hz => by
    rw [goT] at hz
    rw [List.mem_singleton.1 hz]
    exact hs
  | x :: l, s, hs, hx, z, hz => by
    rw [goT] at hz
    rcases List.mem_cons.1 hz with rfl | hz
    · exact hs
    · exact go_in ha l _ ((states_mem (Pl.check_zero (ask_zero ha).1).1).2 (nextS_has ha hs (hx x (List.mem_cons_self ..)))) (fun y hy => hx y (List.mem_cons_of_mem _ hy)) z hz
theorem go_kept {p : Pl} {c : List Ln} (ha : askT p c = 0) : ∀ (l : List Sh) (s : St), s ∈ p.states → lostI p c s = false → (∀ x ∈ l, x ∈ p.shocks) → ∀ z ∈ goT p c s l, lostI p c z = false
  | [], s, _, hl, _, z, hz => by
    rw [goT] at hz
    rw [List.mem_singleton.1 hz]
    exact hl
  | x :: l, s, hs, hl, hx, z, hz => by
    rw [goT] at hz
    rcases List.mem_cons.1 hz with rfl | hz
    · exact hl
    · obtain ⟨h1, h2⟩ := (kept_says ha hs hl).2 x (hx x (List.mem_cons_self ..))
      exact go_kept ha l _ h1 h2 (fun y hy => hx y (List.mem_cons_of_mem _ hy)) z hz
theorem shock_bd {p : Pl} (hv : p.Valid) {x : Sh} (h : x ∈ p.shocks) : 0 ≤ x.feed ∧ x.feed ≤ p.feed ∧ -1 ≤ x.msg ∧ x.msg ≤ p.orders := by
  have h1 := (shocks_mem hv).1 h
  unfold chosenB at h1
  simp only [Bool.and_eq_true, inI, decide_eq_true_eq] at h1
  exact ⟨h1.1.1, h1.1.2, h1.2.1, h1.2.2⟩
theorem law_BarrierEither (p : Pl) (c : List Ln) (V : Value) (l : List Sh) (U : Value) (w : World) (hC : CodeAt w w.heap.size V c) (hL : ShLs w w.heap.size U l) :
    Calls Try.prog 5 #[p.v, .agg #[V], U] w fun e w' => e = .returned (.bool true) ∧ Below w.heap.size w w' := by
  obtain ⟨A, cp, rfl, hm⟩ := hC.form
  obtain ⟨Al, cl, rfl, hml⟩ := hL.form
  obtain ⟨n, hn⟩ : ∃ n, c.length = n := ⟨_, rfl⟩
  obtain ⟨nl, hnl⟩ : ∃ nl, l.length = nl := ⟨_, rfl⟩
  rw [hn] at hC
  rw [hnl] at hL
  rw [hn, hnl]
  have HC := Lib.hid hC
  have HL := Lib.hid hL
  have HNL := Lib.hid hnl
  clear hC hL hm hml hn hnl
  go_enter Try.func5, Try.ntmps5
  go_wp2_with fail
  have hB := ((Below.refl w.heap.size w).alloc (by simp <;> omega) (.cells #[.int .i64 p.top, .int .i64 p.bank, .int .i64 p.siphon, .int .i64 p.start, .int .i64 p.positions, .int .i64 p.rate, .int .i64 p.step, .int .i64 p.pass, .int .i64 p.feed, .int .i64 p.pipe, .int .i64 p.orders, .int .i64 p.age] 23)).alloc (by simp <;> omega) (.cells #[.slice A n cp] 26)
  have X3 := (Box.newAt (w := w) (n := w.heap.size) [.int .i64 p.top, .int .i64 p.bank, .int .i64 p.siphon, .int .i64 p.start, .int .i64 p.positions, .int .i64 p.rate, .int .i64 p.step, .int .i64 p.pass, .int .i64 p.feed, .int .i64 p.pipe, .int .i64 p.orders, .int .i64 p.age] 23 rfl).alloc (.cells #[.slice A n cp] 26)
  have X4 := Box.newAt (w := w.alloc (.cells #[.int .i64 p.top, .int .i64 p.bank, .int .i64 p.siphon, .int .i64 p.start, .int .i64 p.positions, .int .i64 p.rate, .int .i64 p.step, .int .i64 p.pass, .int .i64 p.feed, .int .i64 p.pipe, .int .i64 p.orders, .int .i64 p.age] 23)) (n := w.heap.size + 1) [.slice A n cp] 26 (by simp)
  generalize (w.alloc (.cells #[.int .i64 p.top, .int .i64 p.bank, .int .i64 p.siphon, .int .i64 p.start, .int .i64 p.positions, .int .i64 p.rate, .int .i64 p.step, .int .i64 p.pass, .int .i64 p.feed, .int .i64 p.pipe, .int .i64 p.orders, .int .i64 p.age] 23)).alloc (.cells #[.slice A n cp] 26) = w0 at X3 X4 hB ⊢
  refine (bSane_any _).mono ?_
  rintro e w1 ⟨rfl, hb⟩
  replace X3 := X3.later hb
  replace X4 := X4.later hb
  replace hB := hB.trans (hb.mono hB.size)
  clear hb
  obtain ⟨X3c0, X3f0, X3c1, X3f1, X3c2, X3f2, X3c3, X3f3, X3c4, X3f4, X3c5, X3f5, X3c6, X3f6, X3c7, X3f7, X3c8, X3f8, X3c9, X3f9, X3c10, X3f10, X3c11, X3f11⟩ := X3.f12
  have X3z : w.heap.size < w1.heap.size := X3.lt
  have X4c0 : w1.cell? ⟨w.heap.size + 1, 0, none⟩ = some (.slice A n cp) := X4.cell 0
  have X4f0 : w1.frozen? ⟨w.heap.size + 1, 0, none⟩ = false := X4.free 0
  have X4z : w.heap.size + 1 < w1.heap.size := X4.lt
  go_wp2_with fail
  clear X3c0 X3f0 X3c1 X3f1 X3c2 X3f2 X3c3 X3f3 X3c4 X3f4 X3c5 X3f5 X3c6 X3f6 X3c7 X3f7 X3c8 X3f8 X3c9 X3f9 X3c10 X3f10 X3c11 X3f11 X3z
  clear X4c0 X4f0 X4z
  refine (zFew_is (HC.out.later hB) (bar_nil0 _ _)).mono ?_
  rintro e w2 hF
  obtain ⟨t, rfl, hb⟩ := hF
  replace X3 := X3.later hb
  replace X4 := X4.later hb
  replace hB := hB.trans (hb.mono hB.size)
  clear hb
  cases t with
  | false =>
    go_wp2
    go_ret
    exact ⟨rfl, hB⟩
  | true =>
  by_cases h60 : nl ≤ 60
  rotate_left
  · have e0 : (60 : Int) < (nl : Int) := by omega
    have e1 : 60 < nl := by omega
    clear h60
    go_wp2
    go_ret
    exact ⟨rfl, hB⟩
  have e60 : ¬ (60 : Int) < (nl : Int) := by omega
  obtain ⟨ck, hck⟩ : ∃ ck, Hid (p.checkT = ck) := ⟨_, Lib.hid rfl⟩
  obtain ⟨X3c0, X3f0, X3c1, X3f1, X3c2, X3f2, X3c3, X3f3, X3c4, X3f4, X3c5, X3f5, X3c6, X3f6, X3c7, X3f7, X3c8, X3f8, X3c9, X3f9, X3c10, X3f10, X3c11, X3f11⟩ := X3.f12
  have X3z : w.heap.size < w2.heap.size := X3.lt
  go_wp2_with fail
  clear X3c0 X3f0 X3c1 X3f1 X3c2 X3f2 X3c3 X3f3 X3c4 X3f4 X3c5 X3f5 X3c6 X3f6 X3c7 X3f7 X3c8 X3f8 X3c9 X3f9 X3c10 X3f10 X3c11 X3f11 X3z
  refine (check_at hck _).mono ?_
  rintro e w3 ⟨rfl, hb⟩
  replace X3 := X3.later hb
  replace X4 := X4.later hb
  replace hB := hB.trans (hb.mono hB.size)
  clear hb
  have H60 := Lib.hid h60
  clear h60
  by_cases h0 : ck = 0
  rotate_left
  · have e0 : (ck != 0) = true := by simp [h0]
    clear h0
    go_wp2
    go_ret
    exact ⟨rfl, hB⟩
  subst h0
  have HV := Lib.hid (Pl.check_zero hck.out).1
  have hcn : Hid (askT p c = 0 → p.count ≤ 524288) := Lib.hid (fun _ => by have := count_le hck.out; omega)
  obtain ⟨X3c0, X3f0, X3c1, X3f1, X3c2, X3f2, X3c3, X3f3, X3c4, X3f4, X3c5, X3f5, X3c6, X3f6, X3c7, X3f7, X3c8, X3f8, X3c9, X3f9, X3c10, X3f10, X3c11, X3f11⟩ := X3.f12
  have X3z : w.heap.size < w3.heap.size := X3.lt
  have X4c0 : w3.cell? ⟨w.heap.size + 1, 0, none⟩ = some (.slice A n cp) := X4.cell 0
  have X4f0 : w3.frozen? ⟨w.heap.size + 1, 0, none⟩ = false := X4.free 0
  have X4z : w.heap.size + 1 < w3.heap.size := X4.lt
  go_wp2_with fail
  clear X3c0 X3f0 X3c1 X3f1 X3c2 X3f2 X3c3 X3f3 X3c4 X3f4 X3c5 X3f5 X3c6 X3f6 X3c7 X3f7 X3c8 X3f8 X3c9 X3f9 X3c10 X3f10 X3c11 X3f11 X3z
  clear X4c0 X4f0 X4z
  clear e60
  refine (bInv_any p c _ _ _ _ hcn (Lib.hid (HC.out.later hB))).mono ?_
  rintro e w4 ⟨A7, n7, c7, rfl, hrow, hb⟩
  replace X3 := X3.later hb
  replace X4 := X4.later hb
  replace hB := hB.trans (hb.mono hB.size)
  clear hb
  obtain ⟨D7, hD7⟩ : ∃ D7, w3.heap.size = D7 := ⟨_, rfl⟩
  rw [hD7] at hrow
  have HROW := Lib.hid hrow
  clear hrow hD7
  obtain ⟨X3c0, X3f0, X3c1, X3f1, X3c2, X3f2, X3c3, X3f3, X3c4, X3f4, X3c5, X3f5, X3c6, X3f6, X3c7, X3f7, X3c8, X3f8, X3c9, X3f9, X3c10, X3f10, X3c11, X3f11⟩ := X3.f12
  have X3z : w.heap.size < w4.heap.size := X3.lt
  have X4c0 : w4.cell? ⟨w.heap.size + 1, 0, none⟩ = some (.slice A n cp) := X4.cell 0
  have X4f0 : w4.frozen? ⟨w.heap.size + 1, 0, none⟩ = false := X4.free 0
  have X4z : w.heap.size + 1 < w4.heap.size := X4.lt
  go_wp2_with fail
  clear X3c0 X3f0 X3c1 X3f1 X3c2 X3f2 X3c3 X3f3 X3c4 X3f4 X3c5 X3f5 X3c6 X3f6 X3c7 X3f7 X3c8 X3f8 X3c9 X3f9 X3c10 X3f10 X3c11 X3f11 X3z
  clear X4c0 X4f0 X4z
  refine (bEsc_any p c _ _ _ _ hcn (Lib.hid (HC.out.later hB))).mono ?_
  rintro e w5 ⟨A10, n10, c10, rfl, hS, hb⟩
  have HROW5 := Lib.hid (OwnE.later HROW.out hb)
  clear HROW
  replace X3 := X3.later hb
  replace X4 := X4.later hb
  replace hB := hB.trans (hb.mono hB.size)
  clear hb
  have hSr := hS.rd
  clear hS
  obtain ⟨A9, c9, hV9, hlm9, hcw⟩ := hSr
  cases hV9
  obtain ⟨Ar, cr, hVr⟩ := ownE_form HROW5.out (fun _ => rfl)
  cases hVr
  by_cases hask : askT p c = 0
  rotate_left
  · have h1 : escT p c = ([], false, askT p c) := escT_err hask
    have h2 : invT p c = ([], false, askT p c) := if_neg hask
    rw [h1, h2]
    have e0 : (askT p c != 0) = true := by simp [hask]
    clear HROW5 hcw hlm9 h1 h2
    generalize askT p c = er at e0 ⊢
    clear hask
    go_wp2
    go_ret
    exact ⟨by simp, hB⟩
  have hsay := esc_says hask
  have hinv : invT p c = (p.states.filter (fun s => !lostI p c s), !lostI p c p.beginT.1, 0) := if_pos hask
  have hesc2 : (escT p c).2.2 = 0 := by
    unfold escT
    rw [if_pos hask]
    split
    · split <;> rfl
    · rfl
  obtain ⟨way, hway⟩ : ∃ way, (escT p c).1 = way := ⟨_, rfl⟩
  rw [hinv] at HROW5 ⊢
  rw [hesc2, hsay.1]
  rw [hway] at hsay hlm9 hcw ⊢
  have HASK := Lib.hid hask
  have HWC := Lib.hid hcw
  have HWL := Lib.hid hlm9
  obtain ⟨lo, hlo⟩ : ∃ lo, lostI p c p.beginT.1 = lo := ⟨_, rfl⟩
  obtain ⟨s1, s2, s3⟩ := hsay
  rw [s1, hlo] at s3
  rw [hlo]
  have HS3 := Lib.hid s3
  have HLO := Lib.hid hlo
  obtain ⟨nw, hnw⟩ : ∃ nw, way.length = nw := ⟨_, rfl⟩
  rw [hnw]
  have HNW := Lib.hid hnw
  clear s1 s2 s3 hlo hway hinv hesc2 hask hcw hlm9 hnw
  dsimp only at HROW5 ⊢
  obtain ⟨set, hset⟩ : ∃ set, p.states.filter (fun s => !lostI p c s) = set := ⟨_, rfl⟩
  rw [hset] at HROW5 ⊢
  obtain ⟨ns, hns⟩ : ∃ ns, set.length = ns := ⟨_, rfl⟩
  rw [hns] at HROW5 ⊢
  have HNS := Lib.hid hns
  have HSET := Lib.hid hset
  clear hns hset
  cases lo with
  | true =>
    simp only [Bool.not_true]
    obtain ⟨pre, y, hgo, hsafe, huns, hxs⟩ := HS3.out rfl
    have HGO := Lib.hid hgo
    have HSAFE := Lib.hid hsafe
    have HUNS := Lib.hid huns
    have HXS := Lib.hid hxs
    clear hgo hsafe huns hxs HS3 HROW5 HNS HSET
    go_upto_region 12 with fail
    go_wp2_with fail
    go_loopw [96] (fun i wr => ∃ j : Nat, j ≤ nw ∧ i = .int .i64 j ∧ Below w5.heap.size w5 wr) (fun i _ => nw - (intOf i).toNat)
    case atStart => exact ⟨0, Nat.zero_le _, rfl, Below.refl _ _⟩
    case round =>
      obtain ⟨j, hj, rfl, hbr⟩ := hrel
      obtain ⟨wo, rfl⟩ : ∃ wo : World, wo = wr := ⟨_, rfl⟩
      replace X3 := X3.later hbr
      replace X4 := X4.later hbr
      replace hB := hB.trans (hbr.mono hB.size)
      rcases Nat.lt_or_ge j nw with hlt | hge
      · have e0 : (j : Int) < (nw : Int) := by omega
        have hjw : j < way.length := by rw [HNW.out]; exact hlt
        obtain ⟨g, hA10, hgl, q0, q1⟩ := HWC.out j hjw
        obtain ⟨b1, b2, b3, b4⟩ := shock_bd HV.out (HXS.out _ (List.getElem_mem hjw))
        have hnw2 : nw ≤ 1048576 := by rw [← HNW.out]; exact HWL.out
        subst hA10
        generalize way[j] = x at q0 q1 b1 b2 b3 b4
        obtain ⟨x0, x1⟩ := x
        dsimp only at q0 q1 b1 b2 b3 b4
        have q0 := (hbr.cell hgl).trans q0
        have q1 := (hbr.cell hgl).trans q1
        have hgz := Nat.lt_of_lt_of_le hgl hbr.size
        clear hjw hgl
        go_upto_region 15 with fail
        clear q0 q1 hgz e0
        have hb := (Below.refl wo.heap.size wo).alloc (Nat.le_refl _) (.cells #[.int .i64 x0, .int .i64 x1] 37)
        have X14 := Box.new wo [.int .i64 x0, .int .i64 x1] 37
        replace X3 := X3.later hb
        have hbr2 := hbr.trans (hb.mono hbr.size)
        clear hb
        generalize wo.alloc (.cells #[.int .i64 x0, .int .i64 x1] 37) = wp at X3 X14 hbr2 ⊢
        generalize wo.heap.size = B14 at X14 ⊢
        have c8 : wp.cell? ⟨w.heap.size, 8, none⟩ = some (.int .i64 p.feed) := X3.cell 8
        have c10 : wp.cell? ⟨w.heap.size, 10, none⟩ = some (.int .i64 p.orders) := X3.cell 10
        have z3 := X3.lt
        have z14 := X14.lt
        obtain ⟨X14c0, X14c1⟩ := X14.c2
        have d1 : ¬ x0 < 0 := by omega
        have d2 : ¬ p.feed < x0 := by omega
        have d3 : ¬ x1 < -1 := by omega
        have d4 : ¬ p.orders < x1 := by omega
        go_wp2
        exact ⟨⟨j + 1, Nat.succ_le_of_lt hlt, by go_num, hbr2⟩, by simp [intOf]; omega⟩
      obtain rfl : j = nw := by omega
      have e0 : ¬ (j : Int) < (j : Int) := by omega
      have hrd : ShRd wo (.slice A10 j c10) way := ⟨A10, c10, by rw [HNW.out], HWL.out, fun k hk => by
        obtain ⟨g, e1, e2, e3, e4⟩ := HWC.out k hk
        exact ⟨g, e1, Nat.lt_of_lt_of_le e2 hbr.size, (hbr.cell e2).trans e3, (hbr.cell e2).trans e4⟩⟩
      obtain ⟨X3c0, X3c1, X3c2, X3c3, X3c4, X3c5, X3c6, X3c7, X3c8, X3c9, X3c10, X3c11⟩ := X3.c12
      have X4c0 : wo.cell? ⟨w.heap.size + 1, 0, none⟩ = some (.slice A n cp) := X4.cell 0
      have X3z := X3.lt
      have X4z := X4.lt
      go_wp2_with fail
      refine (lPlay_any p c _ _ _ _ way _ HASK (Lib.hid (HC.out.later hB)) hrd HXS).mono ?_
      rintro e w7 ⟨A15, n15, c15, rfl, hO, hb⟩
      clear X3c0 X3c1 X3c2 X3c3 X3c4 X3c5 X3c6 X3c7 X3c8 X3c9 X3c10 X3c11 X4c0 X3z X4z e0 hrd
      replace X3 := X3.later hb
      replace hB := hB.trans (hb.mono hB.size)
      clear hb X4 hbr hj
      have hin := go_in HASK.out way p.beginT.1 ((states_mem HV.out).2 (begin_has HV.out hck.out)) HXS.out
      rw [HGO.out] at hO hin
      have HIN := Lib.hid hin
      obtain ⟨A', c', hV⟩ := ownE_form hO (fun _ => rfl)
      cases hV
      have hpl : (pre ++ [y]).length = pre.length + 1 := by rw [List.length_append]; rfl
      have hm2 : pre.length ≤ 1048576 := by
        have h9 := go_len p c way p.beginT.1
        rw [HGO.out, hpl] at h9
        have h10 := HWL.out
        omega
      obtain ⟨m, hm⟩ : ∃ m, pre.length = m := ⟨_, rfl⟩
      rw [hm] at hpl hm2
      have HO := Lib.hid hO
      rw [hpl]
      have HPL := Lib.hid hpl
      have HM := Lib.hid hm
      have HM2 := Lib.hid hm2
      clear hO hin hpl hm hm2
      go_wp2_with fail
      go_loopw [134] (fun i wr => ∃ j : Nat, j ≤ m + 1 ∧ i = .int .i64 j ∧ Below w7.heap.size w7 wr) (fun i _ => m + 1 - (intOf i).toNat)
      case atStart => exact ⟨0, Nat.zero_le _, rfl, Below.refl _ _⟩
      case round =>
        obtain ⟨j2, hj, rfl, hbr⟩ := hrel
        obtain ⟨wo, rfl⟩ : ∃ wo : World, wo = wr := ⟨_, rfl⟩
        have hm2 := HM2.out
        rcases Nat.lt_or_ge j2 (m + 1) with hlt | hge
        rotate_left
        · obtain rfl : j2 = m + 1 := by omega
          have e0 : ¬ ((m + 1 : Nat) : Int) < ((m + 1 : Nat) : Int) := by omega
          go_wp2
          go_ret
          exact ⟨rfl, hB.trans (hbr.mono hB.size)⟩
        have e0 : (j2 : Int) < ((m + 1 : Nat) : Int) := by omega
        have hjs : j2 < (pre ++ [y]).length := by rw [HPL.out]; exact hlt
        obtain ⟨g, hA, _, hgl, t0, t1, t2, t3, t4, t5⟩ := ownSt_cells HO.out hjs
        have hsm := HIN.out _ (List.getElem_mem hjs)
        have hsf : (p.safeT (pre ++ [y])[j2]).1 = decide (j2 < m) := by
          by_cases h9 : j2 < m
          · rw [decide_eq_true h9, List.getElem_append_left (by rw [HM.out]; exact h9)]
            exact HSAFE.out _ (List.getElem_mem _)
          · have h10 : j2 = pre.length := by rw [HM.out]; omega
            subst h10
            rw [decide_eq_false h9, List.getElem_concat_length rfl]
            exact HUNS.out
        obtain ⟨s, hs⟩ : ∃ s, (pre ++ [y])[j2] = s := ⟨_, rfl⟩
        rw [hs] at t0 t1 t2 t3 t4 t5 hsm hsf
        have hsi := safe_in hck.out (states_has HV.out hsm)
        rw [hsi] at hsf
        dsimp only at hsf
        rw [hsf] at hsi
        have HSI := Lib.hid hsi
        subst hA
        clear hs hjs hsm hsf hsi
        obtain ⟨s0, s1, s2, s3, s4, s5⟩ := s
        dsimp only at t0 t1 t2 t3 t4 t5
        have t0 := (hbr.cell hgl).trans t0
        have t1 := (hbr.cell hgl).trans t1
        have t2 := (hbr.cell hgl).trans t2
        have t3 := (hbr.cell hgl).trans t3
        have t4 := (hbr.cell hgl).trans t4
        have t5 := (hbr.cell hgl).trans t5
        have hgz := Nat.lt_of_lt_of_le hgl hbr.size
        go_upto_region 24 with fail
        clear t0 t1 t2 t3 t4 t5 hgl hgz e0
        have hb := (Below.refl wo.heap.size wo).alloc (Nat.le_refl _) (.cells #[.int .i64 s0, .int .i64 s1, .int .i64 s2, .int .i64 s3, .int .i64 s4, .int .i64 s5] 30)
        have X18 := Box.new wo [.int .i64 s0, .int .i64 s1, .int .i64 s2, .int .i64 s3, .int .i64 s4, .int .i64 s5] 30
        replace X3 := (X3.later hbr).later hb
        have hbr2 := hbr.trans (hb.mono hbr.size)
        clear hb
        generalize wo.alloc (.cells #[.int .i64 s0, .int .i64 s1, .int .i64 s2, .int .i64 s3, .int .i64 s4, .int .i64 s5] 30) = wp at X3 X18 hbr2 ⊢
        generalize wo.heap.size = B18 at X18 ⊢
        obtain ⟨X3c0, X3c1, X3c2, X3c3, X3c4, X3c5, X3c6, X3c7, X3c8, X3c9, X3c10, X3c11⟩ := X3.c12
        obtain ⟨X18c0, X18c1, X18c2, X18c3, X18c4, X18c5⟩ := X18.c6
        have z3 := X3.lt
        have z18 := X18.lt
        go_wp2_with fail
        refine (safe_is HSI).mono ?_
        rintro e wq ⟨rfl, hb⟩
        clear X3c0 X3c1 X3c2 X3c3 X3c4 X3c5 X3c6 X3c7 X3c8 X3c9 X3c10 X3c11 z3 X18c0 X18c1 X18c2 X18c3 X18c4 X18c5 z18
        have hbr3 := hbr2.trans (hb.mono hbr2.size)
        clear hb
        have w1 : wrap64 (m : Int) = m := by unfold wrap64; omega
        have w2 : IntKind.i64.wrap (m : Int) = m := by rw [IntKind.wrap_i64]; omega
        by_cases hjm : j2 < m
        · have d1 : (j2 : Int) < (m : Int) := by omega
          go_wp2
          exact ⟨⟨j2 + 1, Nat.succ_le_of_lt hlt, by go_num, hbr3⟩, by simp [intOf]; omega⟩
        · have d1 : ¬ (j2 : Int) < (m : Int) := by omega
          go_wp2
          exact ⟨⟨j2 + 1, Nat.succ_le_of_lt hlt, by go_num, hbr3⟩, by simp [intOf]; omega⟩
  | false =>
    simp only [Bool.not_false]
    clear HS3 HWC HWL HNW
    go_upto_region 29 with fail
    have hmk : (Instr.makeMap 56 none).run Try.prog w5 = .ok (.map (some w5.heap.size)) (w5.alloc (.map #[] 0)) := rfl
    go_upto_region 30 with fail
    clear hmk
    have hM : LostM (w5.alloc (.map #[] 0)) w5.heap.size (memF []) := MapS.made w5
    have hb := (Below.refl w5.heap.size w5).alloc (Nat.le_refl _) (.map #[] 0)
    have hcs : w.heap.size ≤ w5.heap.size := hB.size
    have HR6 := Lib.hid (OwnE.later HROW5.out hb)
    replace X3 := X3.later hb
    replace X4 := X4.later hb
    replace hB := hB.trans (hb.mono hB.size)
    clear hb HROW5
    generalize w5.alloc (.map #[] 0) = w6 at hM X3 X4 hB HR6 ⊢
    generalize w5.heap.size = Bm at hM hcs ⊢
    have hns : Hid (ns ≤ 524288) := Lib.hid (by
      rw [← HNS.out, ← HSET.out]
      have h9 : (p.states.filter (fun s => !lostI p c s)).length ≤ p.states.length := List.length_filter_le _ _
      rw [states_len] at h9
      have h10 := hcn.out HASK.out
      omega)
    go_wp2_with fail
    go_loopw [160] (fun i wr => ∃ j : Nat, j ≤ ns ∧ i = .int .i64 j ∧ Below w.heap.size w wr ∧ Box wr w.heap.size [.int .i64 p.top, .int .i64 p.bank, .int .i64 p.siphon, .int .i64 p.start, .int .i64 p.positions, .int .i64 p.rate, .int .i64 p.step, .int .i64 p.pass, .int .i64 p.feed, .int .i64 p.pipe, .int .i64 p.orders, .int .i64 p.age] ∧ Box wr (w.heap.size + 1) [.slice A n cp] ∧ LostM wr Bm (memF (set.take j)) ∧ Hid (Row wr D7 (.slice A7 ns c7) set)) (fun i _ => ns - (intOf i).toNat)
    case atStart => exact ⟨0, Nat.zero_le _, rfl, hB, X3, X4, hM, HR6⟩
    case round =>
      clear hB X3 X4 hM HR6
      obtain ⟨j, hj, rfl, hB, X3, X4, hM, hR⟩ := hrel
      obtain ⟨wo, rfl⟩ : ∃ wo : World, wo = wr := ⟨_, rfl⟩
      have hns2 := hns.out
      rcases Nat.lt_or_ge j ns with hlt | hge
      · have e0 : (j : Int) < (ns : Int) := by omega
        have hjs : j < set.length := by rw [HNS.out]; exact hlt
        obtain ⟨g, hA7, _, hgl, t0, t1, t2, t3, t4, t5⟩ := ownSt_cells hR.out hjs
        have hsm : set[j] ∈ set := List.getElem_mem hjs
        have hsm2 : set[j] ∈ p.states := by
          have h9 : set[j] ∈ p.states.filter (fun s => !lostI p c s) := by rw [HSET.out]; exact hsm
          exact (List.mem_filter.1 h9).1
        have htk : memF (set.take (j + 1)) = updB (memF (set.take j)) set[j] := by
          rw [List.take_succ_eq_append_getElem hjs]
          exact memF_snoc _ _
        obtain ⟨s, hs⟩ : ∃ s, set[j] = s := ⟨_, rfl⟩
        rw [hs] at t0 t1 t2 t3 t4 t5 hsm2 htk
        have hsw := states_wide HV.out hsm2
        have HTK := Lib.hid htk
        subst hA7
        clear hs hjs hsm hsm2 htk
        obtain ⟨s0, s1, s2, s3, s4, s5⟩ := s
        dsimp only at t0 t1 t2 t3 t4 t5
        go_upto_region 33 with fail
        clear t0 t1 t2 t3 t4 t5 e0 hgl
        have hb := (Below.refl wo.heap.size wo).alloc (Nat.le_refl _) (.cells #[.int .i64 s0, .int .i64 s1, .int .i64 s2, .int .i64 s3, .int .i64 s4, .int .i64 s5] 30)
        have X23 := Box.new wo [.int .i64 s0, .int .i64 s1, .int .i64 s2, .int .i64 s3, .int .i64 s4, .int .i64 s5] 30
        replace X3 := X3.later hb
        replace X4 := X4.later hb
        replace hM := hM.later hb
        have hR2 := Lib.hid (OwnE.later hR.out hb)
        replace hB := hB.trans (hb.mono hB.size)
        clear hb hR
        generalize wo.alloc (.cells #[.int .i64 s0, .int .i64 s1, .int .i64 s2, .int .i64 s3, .int .i64 s4, .int .i64 s5] 30) = wp at X3 X4 X23 hM hR2 hB ⊢
        generalize wo.heap.size = B23 at X23 ⊢
        obtain ⟨wq, hput, hM2, hgq, -⟩ := hM.put Try.underlying56 hsw (.bool true)
        rw [updB_some, ← HTK.out] at hM2
        obtain ⟨X23c0, X23c1, X23c2, X23c3, X23c4, X23c5⟩ := X23.c6
        have z23 := X23.lt
        have hBq : Below w.heap.size w wq := hB.grown hgq hB.size (fun k hk => by cases hk; exact hcs)
        have X3q : Box wq w.heap.size [.int .i64 p.top, .int .i64 p.bank, .int .i64 p.siphon, .int .i64 p.start, .int .i64 p.positions, .int .i64 p.rate, .int .i64 p.step, .int .i64 p.pass, .int .i64 p.feed, .int .i64 p.pipe, .int .i64 p.orders, .int .i64 p.age] := X3.same (hgq.block _ X3.lt (fun e => hM.notBox X3 (Option.some.inj e)))
        have X4q : Box wq (w.heap.size + 1) [.slice A n cp] := X4.same (hgq.block _ X4.lt (fun e => hM.notBox X4 (Option.some.inj e)))
        obtain ⟨es9, cl9, hmb9⟩ := hM.block
        have hRq := Lib.hid (Row.kept hR2.out hgq (fun k hk e => by cases e; exact Row.cellsOnly hR2.out hk hmb9 rfl))
        go_wp2
        exact ⟨⟨j + 1, Nat.succ_le_of_lt hlt, by go_num, hBq, X3q, X4q, hM2, hRq⟩, by simp [intOf]; omega⟩
      obtain rfl : j = ns := by omega
      have e0 : ¬ (j : Int) < (j : Int) := by omega
      rw [List.take_of_length_le (by rw [HNS.out]; exact Nat.le_refl _)] at hM
      clear hR hge hj hns2
      go_upto_region 35 with fail
      clear e0
      have hO0 : Hid (OwnSh wo wo.heap.size (.slice none 0 0) []) := Lib.hid (ownE_nil _ _ _ _ _)
      have hnl := H60.out
      go_wp2_with fail
      go_loopw [169, 24] (fun i V wr => ∃ (j2 : Nat) (acc : List Sh) (Av : Option Addr) (nv cv : Nat), j2 ≤ nl ∧ i = .int .i64 j2 ∧ V = .slice Av nv cv ∧ Below wo.heap.size wo wr ∧ Hid (OwnSh wr wo.heap.size (.slice Av nv cv) acc) ∧ Hid (acc.length = j2) ∧ Hid (∀ x ∈ acc, x ∈ p.shocks)) (fun i _ _ => nl - (intOf i).toNat)
      case atStart => exact ⟨0, [], none, 0, 0, Nat.zero_le _, rfl, rfl, Below.refl _ _, hO0, Lib.hid rfl, Lib.hid (fun x hx => by cases hx)⟩
      case round =>
        clear hO0
        obtain ⟨j2, acc, Av, nv, cv, hj2, rfl, rfl, hbr, hO, hal, hax⟩ := hrel
        obtain ⟨wi, rfl⟩ : ∃ wi : World, wi = wr := ⟨_, rfl⟩
        rcases Nat.lt_or_ge j2 nl with hlt | hge
        · have e0 : (j2 : Int) < (nl : Int) := by omega
          obtain ⟨g, off, hAl, hgl, q0, q1⟩ := HL.out.at (k := j2) (by rw [HNL.out]; exact hlt)
          subst hAl
          generalize l[j2]'(by rw [HNL.out]; exact hlt) = x at q0 q1
          obtain ⟨x0, x1⟩ := x
          dsimp only at q0 q1
          have hBi := hB.trans (hbr.mono hB.size)
          have q0 := (hBi.cell hgl).trans q0
          have q1 := (hBi.cell hgl).trans q1
          have hgz := Nat.lt_of_lt_of_le hgl hBi.size
          clear hgl hBi
          go_upto_region 39 with fail
          clear q0 q1 hgz e0
          have hb := (Below.refl wi.heap.size wi).alloc (Nat.le_refl _) (.cells #[.int .i64 x0, .int .i64 x1] 37)
          have X26 := Box.new wi [.int .i64 x0, .int .i64 x1] 37
          have X3i := (X3.later hbr).later hb
          have hO2 := Lib.hid (OwnE.later hO.out hb)
          have hbr2 := hbr.trans (hb.mono hbr.size)
          clear hb hO
          generalize wi.alloc (.cells #[.int .i64 x0, .int .i64 x1] 37) = wp at X3i X26 hO2 hbr2 ⊢
          generalize wi.heap.size = B26 at X26 ⊢
          obtain ⟨X3ic0, X3ic1, X3ic2, X3ic3, X3ic4, X3ic5, X3ic6, X3ic7, X3ic8, X3ic9, X3ic10, X3ic11⟩ := X3i.c12
          obtain ⟨X26c0, X26c1⟩ := X26.c2
          have z3 := X3i.lt
          have z26 := X26.lt
          go_wp2_with fail
          refine (lPoss_any p ⟨x0, x1⟩ _ HV).mono ?_
          rintro e wq ⟨⟨y0, y1⟩, rfl, hym, hb⟩
          clear X3ic0 X3ic1 X3ic2 X3ic3 X3ic4 X3ic5 X3ic6 X3ic7 X3ic8 X3ic9 X3ic10 X3ic11 z3 X26c0 X26c1 z26
          have hO3 := OwnE.later hO2.out hb
          have hbr3 := hbr2.trans (hb.mono hbr2.size)
          clear hb hO2
          have hbA := (Below.refl wq.heap.size wq).alloc (Nat.le_refl _) (.cells #[.int .i64 y0, .int .i64 y1] 37)
          have XL : Box (wq.alloc (.cells #[.int .i64 y0, .int .i64 y1] 37)) wq.heap.size (Sh.cells ⟨y0, y1⟩) := Box.new wq [.int .i64 y0, .int .i64 y1] 37
          have hO4 := OwnE.later hO3 hbA
          have hbr4 := hbr3.trans (hbA.mono hbr3.size)
          obtain ⟨g', c', wA, hr, hO5, hgA, -⟩ := run_appH 47 (s := ⟨y0, y1⟩) hO4 XL hbr4.size (by rw [hal.out]; omega)
          rw [hal.out] at hr hO5
          have hbr5 : Below wo.heap.size wo wA := hbr4.trans ⟨hgA.os, hgA.tape, hgA.output, hgA.size, fun k hk => hgA.block k (Nat.lt_of_lt_of_le hk hbr4.size) (fun e => by have := (World.ownsRow.lt hO4 _ e.symm).1; omega)⟩
          have HO5 := Lib.hid hO5
          have HYM : Hid (∀ x ∈ acc ++ [(⟨y0, y1⟩ : Sh)], x ∈ p.shocks) := Lib.hid (fun x hx => by
            rcases List.mem_append.1 hx with h9 | h9
            · exact hax.out x h9
            · rw [List.mem_singleton.1 h9]
              exact hym)
          have HAL : Hid ((acc ++ [(⟨y0, y1⟩ : Sh)]).length = j2 + 1) := Lib.hid (by rw [List.length_append, hal.out]; rfl)
          clear hO5 hO4 hO3 hbA XL hgA hbr4 hbr3 hym X3i X26
          go_wp2
          exact ⟨⟨j2 + 1, acc ++ [(⟨y0, y1⟩ : Sh)], _, _, _, Nat.succ_le_of_lt hlt, by go_num, rfl, hbr5, HO5, HAL, HYM⟩, by simp [intOf]; omega⟩
        obtain rfl : j2 = nl := by omega
        have e0 : ¬ (j2 : Int) < (j2 : Int) := by omega
        replace X3 := X3.later hbr
        replace X4 := X4.later hbr
        replace hM := hM.later hbr
        replace hB := hB.trans (hbr.mono hB.size)
        have hrd : ShRd wi (.slice Av nv cv) acc := OwnSh.rd hO.out (by rw [hal.out]; omega)
        obtain ⟨X3c0, X3c1, X3c2, X3c3, X3c4, X3c5, X3c6, X3c7, X3c8, X3c9, X3c10, X3c11⟩ := X3.c12
        have X4c0 : wi.cell? ⟨w.heap.size + 1, 0, none⟩ = some (.slice A n cp) := X4.cell 0
        have X3z := X3.lt
        have X4z := X4.lt
        go_wp2_with fail
        refine (lPlay_any p c _ _ _ _ acc _ HASK (Lib.hid (HC.out.later hB)) hrd hax).mono ?_
        rintro e w7 ⟨A15, n15, c15, rfl, hO7, hb⟩
        clear X3c0 X3c1 X3c2 X3c3 X3c4 X3c5 X3c6 X3c7 X3c8 X3c9 X3c10 X3c11 X4c0 X3z X4z e0 hrd hO
        replace X3 := X3.later hb
        replace hM := hM.later hb
        replace hB := hB.trans (hb.mono hB.size)
        clear hb X4 hbr hj2
        have hbm := (states_mem HV.out).2 (begin_has HV.out hck.out)
        have hin := go_in HASK.out acc p.beginT.1 hbm hax.out
        have hkp := go_kept HASK.out acc p.beginT.1 hbm HLO.out hax.out
        have hgl := go_len p c acc p.beginT.1
        rw [hal.out] at hgl
        obtain ⟨T, hT⟩ : ∃ T, goT p c p.beginT.1 acc = T := ⟨_, rfl⟩
        rw [hT] at hin hkp hgl hO7
        obtain ⟨A', c', hV⟩ := ownE_form hO7 (fun _ => rfl)
        cases hV
        rw [hgl]
        have HIN := Lib.hid hin
        have HKP := Lib.hid hkp
        have HGL := Lib.hid hgl
        have HO := Lib.hid hO7
        clear hbm hin hkp hgl hO7 hT hal hax
        go_wp2_with fail
        go_loopw [191] (fun i wr => ∃ j : Nat, j ≤ j2 + 1 ∧ i = .int .i64 j ∧ Below w7.heap.size w7 wr) (fun i _ => j2 + 1 - (intOf i).toNat)
        case atStart => exact ⟨0, Nat.zero_le _, rfl, Below.refl _ _⟩
        case round =>
          obtain ⟨j3, hj, rfl, hbr⟩ := hrel
          obtain ⟨wx, rfl⟩ : ∃ wx : World, wx = wr := ⟨_, rfl⟩
          rcases Nat.lt_or_ge j3 (j2 + 1) with hlt | hge
          rotate_left
          · obtain rfl : j3 = j2 + 1 := by omega
            have e0 : ¬ ((j2 + 1 : Nat) : Int) < ((j2 + 1 : Nat) : Int) := by omega
            go_wp2
            go_ret
            exact ⟨rfl, hB.trans (hbr.mono hB.size)⟩
          have e0 : (j3 : Int) < ((j2 + 1 : Nat) : Int) := by omega
          have hjs : j3 < T.length := by rw [HGL.out]; exact hlt
          obtain ⟨g, hA, _, hgl, t0, t1, t2, t3, t4, t5⟩ := ownSt_cells HO.out hjs
          have hsm := HIN.out _ (List.getElem_mem hjs)
          have hsl := HKP.out _ (List.getElem_mem hjs)
          obtain ⟨s, hs⟩ : ∃ s, T[j3] = s := ⟨_, rfl⟩
          rw [hs] at t0 t1 t2 t3 t4 t5 hsm hsl
          have hsf := (kept_says HASK.out hsm hsl).1
          have hmem : memF set s = true := by
            unfold memF
            rw [← HSET.out]
            exact decide_eq_true (List.mem_filter.2 ⟨hsm, by rw [hsl]; rfl⟩)
          have hsi := safe_in hck.out (states_has HV.out hsm)
          rw [hsi] at hsf
          dsimp only at hsf
          rw [hsf] at hsi
          have HSI := Lib.hid hsi
          have hsw := states_wide HV.out hsm
          have HMEM := Lib.hid hmem
          subst hA
          clear hs hjs hsm hsl hsf hsi hmem
          obtain ⟨s0, s1, s2, s3, s4, s5⟩ := s
          dsimp only at t0 t1 t2 t3 t4 t5
          have t0 := (hbr.cell hgl).trans t0
          have t1 := (hbr.cell hgl).trans t1
          have t2 := (hbr.cell hgl).trans t2
          have t3 := (hbr.cell hgl).trans t3
          have t4 := (hbr.cell hgl).trans t4
          have t5 := (hbr.cell hgl).trans t5
          have hgz := Nat.lt_of_lt_of_le hgl hbr.size
          go_upto_region 47 with fail
          clear t0 t1 t2 t3 t4 t5 hgl hgz e0
          have hb := (Below.refl wx.heap.size wx).alloc (Nat.le_refl _) (.cells #[.int .i64 s0, .int .i64 s1, .int .i64 s2, .int .i64 s3, .int .i64 s4, .int .i64 s5] 30)
          have X30 := Box.new wx [.int .i64 s0, .int .i64 s1, .int .i64 s2, .int .i64 s3, .int .i64 s4, .int .i64 s5] 30
          replace X3 := (X3.later hbr).later hb
          have hMx := (hM.later hbr).later hb
          have hbr2 := hbr.trans (hb.mono hbr.size)
          clear hb
          generalize wx.alloc (.cells #[.int .i64 s0, .int .i64 s1, .int .i64 s2, .int .i64 s3, .int .i64 s4, .int .i64 s5] 30) = wp at X3 X30 hMx hbr2 ⊢
          generalize wx.heap.size = B30 at X30 ⊢
          obtain ⟨X3c0, X3c1, X3c2, X3c3, X3c4, X3c5, X3c6, X3c7, X3c8, X3c9, X3c10, X3c11⟩ := X3.c12
          obtain ⟨X30c0, X30c1, X30c2, X30c3, X30c4, X30c5⟩ := X30.c6
          have z3 := X3.lt
          have z30 := X30.lt
          go_wp2_with fail
          refine (safe_is HSI).mono ?_
          rintro e wq ⟨rfl, hb⟩
          clear X3c0 X3c1 X3c2 X3c3 X3c4 X3c5 X3c6 X3c7 X3c8 X3c9 X3c10 X3c11 z3 X30c0 X30c1 X30c2 X30c3 X30c4 X30c5 z30
          have hbr3 := hbr2.trans (hb.mono hbr2.size)
          replace X30 := X30.later hb
          have hlk := lost_look (hMx.later hb) hsw
          rw [HMEM.out] at hlk
          clear hb
          obtain ⟨X30c0, X30c1, X30c2, X30c3, X30c4, X30c5⟩ := X30.c6
          have z30 := X30.lt
          have hnl3 := H60.out
          go_wp2
          exact ⟨⟨j3 + 1, Nat.succ_le_of_lt hlt, by go_num, hbr3⟩, by simp [intOf]; omega⟩
end Go.Proofs.Ytancngachnpefaa
namespace Go.Proofs.Ytancngachnpefaa
open Go.ChangeShapes Go.WideShapes Go.ChangeAt Go.RowKit Go.Joins Go.Deep
section
variable {H : Type} {enc : TypeId × Value → H} {w : World} {base : Nat} {spare : Nat → Bool} {held : Bool}
theorem open_shocks_b {r : Reach} {b0 : Nat} {v : Value} {d : DataW H} {p : List MemPlace} (hv : Value.okWide Try.prog w r b0 47 v) (h : DataW.Trod enc Try.prog w base spare held 47 v d p) : ∃ l : List Sh, ShLs w w.heap.size v l := by
  obtain ⟨A, len0, cap0, rfl⟩ := okWide_slice Try.underlying47 hv
  obtain ⟨n, h⟩ := h
  have h : DataW.trod enc Try.prog w base spare held n 47 [.slice A len0 cap0] = some (d, p) := h
  rcases open_slice_fields Try.underlying47 Try.underlying37 (by kernel_rfl) (by kernel_rfl) h with ⟨h0, _⟩ | ⟨a, len, cap, m, D, Pl, h0, hb, hl, hc, hm, _, hf⟩
  · have e : Value.slice A len0 cap0 = .slice none 0 0 := by simpa using h0
    rw [e]
    exact ⟨[], none, 0, rfl, Nat.zero_le _, fun i hi => by simp at hi⟩
  · have e : Value.slice A len0 cap0 = .slice (some a) len cap := by simpa using h0
    rw [e]
    have hlm : len ≤ m := by rw [hm]; split <;> omega
    obtain ⟨cs, hcs, hp⟩ := exists_list (fun i (c : Sh) => w.cell? (a.add (i * 2 + 0)) = some (.int .i64 c.feed) ∧ w.cell? (a.add (i * 2 + 1)) = some (.int .i64 c.msg)) len (fun i hi => by
      obtain ⟨ys, k, _, _, _, hj⟩ := hf i (by omega)
      obtain ⟨v0, y0, e0, _, t0⟩ := hj 0 _ rfl
      obtain ⟨v1, y1, e1, _, t1⟩ := hj 1 _ rfl
      obtain ⟨x0, rfl, _⟩ := cell_int Try.underlying3 t0
      obtain ⟨x1, rfl, _⟩ := cell_int Try.underlying3 t1
      exact ⟨⟨x0, x1⟩, e0, e1⟩)
    refine ⟨cs, some a, cap, by rw [hcs], by omega, fun i hi => ?_⟩
    have hs : a.spot = none := by
      obtain ⟨q0, _⟩ := hp 0 _ (List.getElem?_eq_getElem (by omega))
      exact spot_none q0
    obtain ⟨b, off, sp⟩ := a
    obtain rfl : sp = none := hs
    obtain ⟨q0, q1⟩ := hp i _ (List.getElem?_eq_getElem hi)
    rw [add_flat] at q0 q1
    refine ⟨b, off, rfl, World.block_lt_of_cell? _ _ q0, fun j hj => ?_⟩
    dsimp only
    rw [List.getElem?_eq_getElem hi]
    rcases (show j = 0 ∨ j = 1 by omega) with rfl | rfl
    · exact q0
    · exact q1
end
end Go.Proofs.Ytancngachnpefaa
