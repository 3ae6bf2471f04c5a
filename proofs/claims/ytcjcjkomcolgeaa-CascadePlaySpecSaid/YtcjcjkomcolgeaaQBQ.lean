/- Plain facts on the search for a flaw. No condition. -/
import Derived.Test.YtcjcjkomcolgeaaQT
import Derived.Test.YtcjcjkomcolgeaaQBL
import Derived.Deep.CutBlock
import Derived.Test.YtcjcjkomcolgeaaQBD
import Derived.Test.YtcjcjkomcolgeaaQD
set_option linter.unusedVariables false
set_option linter.unusedSimpArgs false
namespace Go.Proofs.Ytcjcjkomcolgeaa
open Go.RowKit

theorem findSome_pre {α β : Type} {l pre : List α} {x : α} {f : β} {g : α → Option β} (h : pre ++ [x] <+: l) (hn : ∀ y ∈ pre, g y = none) (hx : g x = some f) : l.findSome? g = some f := by
  obtain ⟨r, rfl⟩ := h
  rw [List.append_assoc, List.findSome?_append, List.findSome?_eq_none_iff.2 hn]
  simp [hx]
theorem find_pre {α : Type} {l pre : List α} {x : α} {g : α → Bool} (h : pre ++ [x] <+: l) (hn : ∀ y ∈ pre, g y = false) (hx : g x = true) : l.find? g = some x := by
  obtain ⟨r, rfl⟩ := h
  rw [List.append_assoc, List.find?_append, List.find?_eq_none.2 (fun y hy => by rw [hn y hy]; decide)]
  simp [hx]
theorem pre_mem {α : Type} {l pre : List α} {x : α} (h : pre ++ [x] <+: l) : x ∈ l := h.subset (by simp)
theorem has_nums {p : Pl} (hv : p.Valid) {s : St} (h : p.hasB s = true) : s.numsB = true := by
  obtain ⟨h1, h2, h3, h4, h5, h6⟩ := small6 hv (Pl.hasB_bd h)
  simp only [St.numsB]
  rw [inI_in (by omega), inI_in (by omega), inI_in (by omega), inI_in (by omega), inI_in (by omega), inI_in (by omega)]
  rfl
theorem states_nums {p : Pl} (hv : p.Valid) {s : St} (h : s ∈ p.states) : Hid (s.numsB = true) := has_nums hv (states_has hv h)
theorem nexts_mem {p : Pl} {c : List Ln} {s : St} {x : Sh × St} (h : x ∈ p.nexts c s (p.nf * p.nm)) : x.1 ∈ p.shocks ∧ x.2 = (nextT p c s x.1).1 := by
  obtain ⟨j, hj, rfl⟩ := List.mem_map.1 h
  exact ⟨List.mem_map.2 ⟨j, hj, rfl⟩, rfl⟩
theorem nextS_has {p : Pl} {c : List Ln} {s : St} {x : Sh} (ha : askT p c = 0) (hs : s ∈ p.states) (hx : x ∈ p.shocks) : p.hasB (nextT p c s x).1 = true := by
  obtain ⟨h1, h2⟩ := ask_zero ha
  obtain ⟨hv, _⟩ := Pl.check_zero h1
  have hh := states_has hv hs
  have hc := (shocks_mem hv).1 hx
  rcases gateT_two c with ⟨_, hg⟩ | hg
  · rw [nextT, if_pos h1, if_pos h2, if_pos hh, if_pos hc]
    exact step_has hv hh hc hg
  · omega
theorem nexts_nums {p : Pl} {c : List Ln} {s : St} (ha : askT p c = 0) (hs : s ∈ p.states) {x : Sh × St} (h : x ∈ p.nexts c s (p.nf * p.nm)) : Hid (x.2.numsB = true) := by
  obtain ⟨h1, h2⟩ := nexts_mem h
  rw [h2]
  exact has_nums (Pl.check_zero (ask_zero ha).1).1 (nextS_has ha hs h1)
theorem flaw_out {p : Pl} {c : List Ln} {b : List Iq} {s : St} (h : inB b s = false) : flawAt p c b s = none := by rw [flawAt, if_neg (by rw [h]; decide)]
theorem flaw_unsafe {p : Pl} {c : List Ln} {b : List Iq} {s : St} (h : inB b s = true) (hs : p.safeB s = false) : flawAt p c b s = some ⟨2, s, Sh.zero⟩ := by rw [flawAt, if_pos h, if_neg (by rw [hs]; decide)]
theorem flaw_stays {p : Pl} {c : List Ln} {b : List Iq} {s : St} (h : ∀ x ∈ p.nexts c s (p.nf * p.nm), inB b x.2 = true) (_hi : inB b s = true) (hs : p.safeB s = true) : flawAt p c b s = none := by
  refine flaw_none.2 fun _ => ⟨hs, fun x hx => ?_⟩
  obtain ⟨j, hj, rfl⟩ := List.mem_map.1 hx
  exact h (p.shAt j, _) (List.mem_map.2 ⟨j, hj, rfl⟩)
theorem flaw_leaves {p : Pl} {c : List Ln} {b : List Iq} {s : St} {pre : List (Sh × St)} {x : Sh × St} (hi : inB b s = true) (hs : p.safeB s = true) (h : pre ++ [x] <+: p.nexts c s (p.nf * p.nm)) (hn : ∀ y ∈ pre, inB b y.2 = true) (hx : inB b x.2 = false) :
    flawAt p c b s = some ⟨3, s, x.1⟩ := by
  rw [flawAt, if_pos hi, if_pos hs]
  have key : pre.map Prod.fst ++ [x.1] <+: p.shocks := by
    have h1 := List.IsPrefix.map Prod.fst h
    rw [List.map_append] at h1
    have h2 : (p.nexts c s (p.nf * p.nm)).map Prod.fst = p.shocks := by
      rw [Pl.nexts, List.map_map]
      rfl
    rw [h2] at h1
    exact h1
  have e : ∀ y ∈ pre, y.2 = (nextT p c s y.1).1 := fun y hy => (nexts_mem (h.subset (by simp [hy]))).2
  rw [find_pre (x := x.1) key]
  · rfl
  · intro z hz
    obtain ⟨y, hy, rfl⟩ := List.mem_map.1 hz
    rw [← e y hy, hn y hy]
    rfl
  · rw [← (nexts_mem (pre_mem h)).2, hx]
    rfl
end Go.Proofs.Ytcjcjkomcolgeaa

/-
  The reference of chapter 33: within, check, in, Holds. (Printed by pp.py.) No condition.
-/
namespace Go.Proofs.Ytcjcjkomcolgeaa
open Go.RowKit

theorem rbWithin_any (n lo hi : Int) (w : World) : Calls Try.prog 68 #[.int .i64 n, .int .i64 lo, .int .i64 hi] w fun e w' => e = .returned (.bool (inI n lo hi)) ∧ w = w' := by
  by_cases h1 : lo ≤ n
  · by_cases h2 : n ≤ hi
    · go_enter Try.func68, Try.ntmps68
      go_wp2
      go_ret
      exact ⟨by rw [inI, decide_eq_true ⟨h1, h2⟩]; rfl, rfl⟩
    · go_enter Try.func68, Try.ntmps68
      go_wp2
      go_ret
      exact ⟨by rw [inI, decide_eq_false (by omega)]; rfl, rfl⟩
  · go_enter Try.func68, Try.ntmps68
    go_wp2
    go_ret
    exact ⟨by rw [inI, decide_eq_false (by omega)]; rfl, rfl⟩
theorem rbWithin_at {n lo hi : Int} {t : Bool} (h : inI n lo hi = t) (w : World) : Calls Try.prog 68 #[.int .i64 n, .int .i64 lo, .int .i64 hi] w fun e w' => e = .returned (.bool t) ∧ w = w' :=
  (rbWithin_any n lo hi w).mono fun _ _ ⟨he, hb⟩ => ⟨by rw [he, h], hb⟩
theorem iq_in (x : Iq) : x.okB = [x.level, x.position, x.pipe, x.order, x.age, x.most].all fun n => inI n (-1048576) 1048576 := by
  simp [Iq.okB]
set_option maxHeartbeats 2000000 in
theorem rbCheck_any (b : List Iq) (v : Value) (w : World) (t : Int) (ht : Hid (barT b = t)) (hQ : BarAt w w.heap.size v b) :
    Calls Try.prog 67 #[v] w fun e w' => e = .returned (.int .i64 t) ∧ Below w.heap.size w w' := by
  obtain ⟨A, c, rfl, hm⟩ := hQ.form
  unfold maxLen at hm
  obtain ⟨m, hnn⟩ : ∃ m, b.length = m := ⟨_, rfl⟩
  rw [hnn] at hm hQ ⊢
  have HN := Lib.hid hnn
  have HQ := Lib.hid hQ
  clear hnn hQ
  by_cases h16 : 16 < m
  · have _hd : decide ((16 : Int) < (m : Int)) = true := decide_eq_true (by omega)
    have hF : t = 2 := by
      rw [← ht.out, barT, HN.out, if_neg (by omega)]
    go_enter Try.func67, Try.ntmps67
    go_wp2
    go_ret
    subst hF
    exact ⟨rfl, Below.refl _ _⟩
  have _hd : decide ((16 : Int) < (m : Int)) = false := decide_eq_false (by omega)
  have hT : Hid (t = if b.all Iq.okB = true then 0 else 330) := by
    rw [Hid, ← ht.out, barT, HN.out, if_pos (by omega)]
  go_enter Try.func67, Try.ntmps67
  go_wp2_with fail
  go_loopw [3] (fun i wr => ∃ j : Nat, j ≤ m ∧ i = .int .i64 j ∧ Below w.heap.size w wr ∧ Hid ((b.take j).all Iq.okB = true)) (fun i _ => m - (intOf i).toNat)
  case atStart => exact ⟨0, by omega, rfl, Below.refl _ _, rfl⟩
  case round =>
    obtain ⟨j, hj, rfl, hb, hall⟩ := hrel
    obtain ⟨wo, rfl⟩ : ∃ wo : World, wo = wr := ⟨_, rfl⟩
    by_cases hlt : j < m
    · have hjl : j < b.length := by rw [HN.out]; exact hlt
      have HQ' := HQ.out
      rw [← HN.out] at HQ'
      obtain ⟨g, off, rfl, hg, c0, c1, c2, c3, c4, c5⟩ := HQ'.ineq hjl
      have c0 := (hb.cell hg).trans c0
      have c1 := (hb.cell hg).trans c1
      have c2 := (hb.cell hg).trans c2
      have c3 := (hb.cell hg).trans c3
      have c4 := (hb.cell hg).trans c4
      have c5 := (hb.cell hg).trans c5
      have htk := bTake b Iq.okB hjl
      have hbad := bBad (f := Iq.okB) hjl
      obtain ⟨y, hy⟩ : ∃ y, b[j] = y := ⟨_, rfl⟩
      rw [hy] at c0 c1 c2 c3 c4 c5 htk hbad
      obtain ⟨y0, y1, y2, y3, y4, y5⟩ := y
      dsimp only at c0 c1 c2 c3 c4 c5
      rw [hall.out, Bool.true_and, iq_in] at htk
      rw [iq_in] at hbad
      dsimp only at htk hbad
      have htk := Lib.hid htk
      have hbad := Lib.hid hbad
      clear hy HQ'
      have hlm : decide ((j : Int) < (m : Int)) = true := decide_eq_true (by omega)
      go_wp2_with fail
      have hsz : wo.heap.size + 1 = (wo.alloc (.cells #[.int .i64 y0, .int .i64 y1, .int .i64 y2, .int .i64 y3, .int .i64 y4, .int .i64 y5] 114)).heap.size := by
        show _ = (wo.heap.push _).size
        simp
      have hb2 := hb.alloc hb.size (.cells #[.int .i64 y0, .int .i64 y1, .int .i64 y2, .int .i64 y3, .int .i64 y4, .int .i64 y5] 114)
      generalize wo.alloc (.cells #[.int .i64 y0, .int .i64 y1, .int .i64 y2, .int .i64 y3, .int .i64 y4, .int .i64 y5] 114) = W2 at hb2 hsz ⊢
      have Z := Box.newAt (w := W2) [.int .i64 y0, .int .i64 y1, .int .i64 y2, .int .i64 y3, .int .i64 y4, .int .i64 y5] 3 hsz
      have hb3 := hb2.alloc hb2.size (.cells #[.int .i64 y0, .int .i64 y1, .int .i64 y2, .int .i64 y3, .int .i64 y4, .int .i64 y5] 3)
      generalize W2.alloc (.cells #[.int .i64 y0, .int .i64 y1, .int .i64 y2, .int .i64 y3, .int .i64 y4, .int .i64 y5] 3) = W3 at hb3 Z ⊢
      clear c0 c1 c2 c3 c4 c5 hb2 hsz
      generalize wo.heap.size + 1 = S at Z ⊢
      obtain ⟨ys, hys⟩ : ∃ ys, [y0, y1, y2, y3, y4, y5] = ys := ⟨_, rfl⟩
      have hyl : ys.length = 6 := by rw [← hys]; rfl
      have hZ : ∀ k (hk : k < ys.length), W3.cell? ⟨S, k, none⟩ = some (.int .i64 ys[k]) := by
        intro k hk
        rw [Z.cell k]
        have e : ([.int .i64 y0, .int .i64 y1, .int .i64 y2, .int .i64 y3, .int .i64 y4, .int .i64 y5] : List Value) = ys.map (fun x => .int .i64 x) := by rw [← hys]; rfl
        rw [e, List.getElem?_map, List.getElem?_eq_getElem hk]
        rfl
      rw [hys] at htk hbad
      have HZ := Lib.hid hZ
      have HYL := Lib.hid hyl
      clear Z hys hZ hyl
      go_loopw [6] (fun i wr => ∃ k : Nat, k ≤ 6 ∧ i = .int .i64 k ∧ wr = W3 ∧ Hid ((ys.take k).all (fun n => inI n (-1048576) 1048576) = true)) (fun i _ => 6 - (intOf i).toNat)
      case atStart => refine ⟨0, by omega, ?_, ?_, ?_⟩ <;> first | rfl | trivial
      case round =>
        obtain ⟨k, hk, rfl, rfl, hall2⟩ := hrel
        by_cases hlt2 : k < 6
        · have hk6 : k < ys.length := by rw [HYL.out]; exact hlt2
          have q0 := HZ.out k hk6
          have ht2 := bTake ys (fun n => inI n (-1048576) 1048576) hk6
          have hb2 := bBad (l := ys) (f := fun n => inI n (-1048576) 1048576) hk6
          obtain ⟨y, hy⟩ : ∃ y, ys[k] = y := ⟨_, rfl⟩
          rw [hy] at q0 ht2 hb2
          rw [hall2.out, Bool.true_and] at ht2
          have ht2 := Lib.hid ht2
          have hb2 := Lib.hid hb2
          clear hy
          have hlk : decide ((k : Int) < 6) = true := decide_eq_true (by omega)
          obtain ⟨u, hu⟩ : ∃ u, inI y (-1048576) 1048576 = u := ⟨_, rfl⟩
          go_wp2_with fail
          refine (rbWithin_at hu _).mono ?_
          rintro e w1 ⟨rfl, rfl⟩
          cases u with
          | true =>
            go_wp2
            refine ⟨⟨k + 1, by omega, by go_num, trivial, ?_⟩, by simp [intOf]; omega⟩
            rw [Hid, ht2.out]
            exact hu
          | false =>
            have hF : t = 330 := by
              rw [hT.out, hbad.out (hb2.out hu)]
              rfl
            go_wp2
            go_ret
            subst hF
            exact ⟨rfl, hb3⟩
        · obtain rfl : k = 6 := by omega
          have ha := hall2.out
          rw [List.take_of_length_le (by rw [HYL.out]; exact Nat.le_refl _)] at ha
          have HA := Lib.hid ha
          clear ha
          go_wp2
          refine ⟨⟨j + 1, by omega, by go_num, hb3, ?_⟩, by simp [intOf]; omega⟩
          rw [Hid, htk.out]
          exact HA.out
    · obtain rfl : j = m := by omega
      have hF : t = 0 := by
        have := hall.out
        rw [← HN.out, List.take_length] at this
        rw [hT.out, this]
        rfl
      go_wp2
      go_ret
      subst hF
      exact ⟨rfl, hb⟩

set_option maxHeartbeats 2000000 in
theorem rbIn_any (b : List Iq) (s : St) (v : Value) (w : World) (t : Bool) (ht : Hid (inB b s = t)) (hQ : BarAt w w.heap.size v b)
    (hok : Hid (∀ x ∈ b, x.okB = true)) (hs : Hid (s.numsB = true)) :
    Calls Try.prog 69 #[v, s.v] w fun e w' => e = .returned (.bool t) ∧ Below w.heap.size w w' := by
  obtain ⟨A, c, rfl, hm⟩ := hQ.form
  unfold maxLen at hm
  obtain ⟨m, hnn⟩ : ∃ m, b.length = m := ⟨_, rfl⟩
  rw [hnn] at hm hQ ⊢
  have HN := Lib.hid hnn
  have HQ := Lib.hid hQ
  clear hnn hQ
  obtain ⟨s0, s1, s2, s3, s4, s5⟩ := s
  go_enter Try.func69, Try.ntmps69
  go_wp2_with fail
  have Y := Box.new w [.int .i64 s0, .int .i64 s1, .int .i64 s2, .int .i64 s3, .int .i64 s4, .int .i64 s5] 51
  have hb0 := (Below.refl w.heap.size w).alloc (Nat.le_refl _) (.cells #[.int .i64 s0, .int .i64 s1, .int .i64 s2, .int .i64 s3, .int .i64 s4, .int .i64 s5] 51)
  generalize w.alloc (.cells #[.int .i64 s0, .int .i64 s1, .int .i64 s2, .int .i64 s3, .int .i64 s4, .int .i64 s5] 51) = W at Y hb0 ⊢
  go_loopw [5] (fun i wr => ∃ j : Nat, j ≤ m ∧ i = .int .i64 j ∧ Below W.heap.size W wr ∧ Hid ((b.take j).all (inP ⟨s0, s1, s2, s3, s4, s5⟩) = true)) (fun i _ => m - (intOf i).toNat)
  case atStart => exact ⟨0, by omega, rfl, Below.refl _ _, rfl⟩
  case round =>
    obtain ⟨j, hj, rfl, hb, hall⟩ := hrel
    have hbw := hb0.trans (hb.mono hb0.size)
    by_cases hlt : j < m
    · have hjl : j < b.length := by rw [HN.out]; exact hlt
      have HQ' := HQ.out
      rw [← HN.out] at HQ'
      obtain ⟨g, off, rfl, hg, c0, c1, c2, c3, c4, c5⟩ := HQ'.ineq hjl
      have c0 := (hbw.cell hg).trans c0
      have c1 := (hbw.cell hg).trans c1
      have c2 := (hbw.cell hg).trans c2
      have c3 := (hbw.cell hg).trans c3
      have c4 := (hbw.cell hg).trans c4
      have c5 := (hbw.cell hg).trans c5
      have htk := bTake b (inP ⟨s0, s1, s2, s3, s4, s5⟩) hjl
      have hbad := bBad (f := inP ⟨s0, s1, s2, s3, s4, s5⟩) hjl
      have hx := hok.out b[j] (List.getElem_mem hjl)
      obtain ⟨y, hy⟩ : ∃ y, b[j] = y := ⟨_, rfl⟩
      rw [hy] at c0 c1 c2 c3 c4 c5 htk hbad hx
      obtain ⟨y0, y1, y2, y3, y4, y5⟩ := y
      dsimp only at c0 c1 c2 c3 c4 c5
      rw [hall.out, Bool.true_and] at htk
      have htk := Lib.hid htk
      have hbad := Lib.hid hbad
      have hb2 := hb.alloc hb.size (.cells #[.int .i64 y0, .int .i64 y1, .int .i64 y2, .int .i64 y3, .int .i64 y4, .int .i64 y5] 114)
      have a0 : (wr.alloc (.cells #[.int .i64 y0, .int .i64 y1, .int .i64 y2, .int .i64 y3, .int .i64 y4, .int .i64 y5] 114)).cell? ⟨w.heap.size, 0, none⟩ = some (.int .i64 s0) := (hb2.cell Y.lt).trans (Y.cell 0)
      have a1 : (wr.alloc (.cells #[.int .i64 y0, .int .i64 y1, .int .i64 y2, .int .i64 y3, .int .i64 y4, .int .i64 y5] 114)).cell? ⟨w.heap.size, 1, none⟩ = some (.int .i64 s1) := (hb2.cell Y.lt).trans (Y.cell 1)
      have a2 : (wr.alloc (.cells #[.int .i64 y0, .int .i64 y1, .int .i64 y2, .int .i64 y3, .int .i64 y4, .int .i64 y5] 114)).cell? ⟨w.heap.size, 2, none⟩ = some (.int .i64 s2) := (hb2.cell Y.lt).trans (Y.cell 2)
      have a3 : (wr.alloc (.cells #[.int .i64 y0, .int .i64 y1, .int .i64 y2, .int .i64 y3, .int .i64 y4, .int .i64 y5] 114)).cell? ⟨w.heap.size, 3, none⟩ = some (.int .i64 s3) := (hb2.cell Y.lt).trans (Y.cell 3)
      have a4 : (wr.alloc (.cells #[.int .i64 y0, .int .i64 y1, .int .i64 y2, .int .i64 y3, .int .i64 y4, .int .i64 y5] 114)).cell? ⟨w.heap.size, 4, none⟩ = some (.int .i64 s4) := (hb2.cell Y.lt).trans (Y.cell 4)
      have a5 : (wr.alloc (.cells #[.int .i64 y0, .int .i64 y1, .int .i64 y2, .int .i64 y3, .int .i64 y4, .int .i64 y5] 114)).cell? ⟨w.heap.size, 5, none⟩ = some (.int .i64 s5) := (hb2.cell Y.lt).trans (Y.cell 5)
      clear hy HQ'
      have hs' := hs.out
      simp only [Iq.okB, St.numsB, inI, Bool.and_eq_true, decide_eq_true_eq] at hx hs'
      have p0 := mul_bd (a := y0) (b := s0) (A := 1048576) (B := 1048576) (by omega) (by omega)
      have p1 := mul_bd (a := y1) (b := s1) (A := 1048576) (B := 1048576) (by omega) (by omega)
      have p2 := mul_bd (a := y2) (b := s2 + s3) (A := 1048576) (B := 2097152) (by omega) (by omega)
      have p3 := mul_bd (a := y3) (b := s4) (A := 1048576) (B := 1048576) (by omega) (by omega)
      have p4 := mul_bd (a := y4) (b := s5) (A := 1048576) (B := 1048576) (by omega) (by omega)
      have hsm : Iq.sum ⟨y0, y1, y2, y3, y4, y5⟩ ⟨s0, s1, s2, s3, s4, s5⟩ = y0 * s0 + y1 * s1 + y2 * (s2 + s3) + y3 * s4 + y4 * s5 := rfl
      have e : wrap64 (s2 + s3) = s2 + s3 := by unfold wrap64; omega
      have e0 : wrap64 (y0 * s0) = y0 * s0 := by unfold wrap64; omega
      have e1 : wrap64 (y1 * s1) = y1 * s1 := by unfold wrap64; omega
      have e2 : wrap64 (y2 * (s2 + s3)) = y2 * (s2 + s3) := by unfold wrap64; omega
      have e3 : wrap64 (y3 * s4) = y3 * s4 := by unfold wrap64; omega
      have e4 : wrap64 (y4 * s5) = y4 * s5 := by unfold wrap64; omega
      generalize hq0 : y0 * s0 = q0 at p0 hsm e0
      generalize hq1 : y1 * s1 = q1 at p1 hsm e1
      generalize hq2 : y2 * (s2 + s3) = q2 at p2 hsm e2
      generalize hq3 : y3 * s4 = q3 at p3 hsm e3
      generalize hq4 : y4 * s5 = q4 at p4 hsm e4
      have f1 : wrap64 (q0 + q1) = q0 + q1 := by unfold wrap64; omega
      have f2 : wrap64 (q0 + q1 + q2) = q0 + q1 + q2 := by unfold wrap64; omega
      have f3 : wrap64 (q0 + q1 + q2 + q3) = q0 + q1 + q2 + q3 := by unfold wrap64; omega
      have f4 : wrap64 (q0 + q1 + q2 + q3 + q4) = q0 + q1 + q2 + q3 + q4 := by unfold wrap64; omega
      have HSM := Lib.hid hsm
      clear hsm hx hs' p0 p1 p2 p3 p4
      have hlm : decide ((j : Int) < (m : Int)) = true := decide_eq_true (by omega)
      rcases hh : inP ⟨s0, s1, s2, s3, s4, s5⟩ ⟨y0, y1, y2, y3, y4, y5⟩ with _ | _
      · have hF : t = false := by
          rw [← ht.out, inB_inP]
          exact hbad.out hh
        have hd := of_decide_eq_false hh
        rw [HSM.out] at hd
        have _hd : decide (y5 < q0 + q1 + q2 + q3 + q4) = true := decide_eq_true (by dsimp only at hd; omega)
        clear hd
        go_wp2
        go_ret
        subst hF
        exact ⟨rfl, hb0.trans (hb2.mono hb0.size)⟩
      · have hd := of_decide_eq_true hh
        rw [HSM.out] at hd
        have _hd : decide (y5 < q0 + q1 + q2 + q3 + q4) = false := decide_eq_false (by dsimp only at hd; omega)
        clear hd
        go_wp2
        refine ⟨⟨j + 1, by omega, by go_num, hb2, ?_⟩, by simp [intOf]; omega⟩
        rw [Hid, htk.out]
        exact hh
    · obtain rfl : j = m := by omega
      have hF : t = true := by
        have := hall.out
        rw [← HN.out, List.take_length] at this
        rw [← ht.out, inB_inP]
        exact this
      go_wp2
      go_ret
      subst hF
      exact ⟨rfl, hbw⟩

theorem nums_in (s : St) : s.numsB = [s.level, s.position, s.p0, s.p1, s.order, s.age].all fun n => inI n 0 1048576 := by
  simp [St.numsB]
set_option maxHeartbeats 2000000 in
theorem rbHolds_bad (b : List Iq) (s : St) (v : Value) (w : World) (t : Int) (ht : Hid (barT b = t)) (h0 : t ≠ 0) (hQ : BarAt w w.heap.size v b) :
    Calls Try.prog 36 #[v, s.v] w fun e w' => e = .returned (.tuple #[.bool false, .int .i64 t]) ∧ Below w.heap.size w w' := by
  obtain ⟨s0, s1, s2, s3, s4, s5⟩ := s
  have hb0 := (Below.refl w.heap.size w).alloc (Nat.le_refl _) (.cells #[.int .i64 s0, .int .i64 s1, .int .i64 s2, .int .i64 s3, .int .i64 s4, .int .i64 s5] 51)
  have HQ := Lib.hid (hQ.later hb0)
  clear hQ
  go_enter Try.func36, Try.ntmps36
  go_wp2_with fail
  generalize w.alloc (.cells #[.int .i64 s0, .int .i64 s1, .int .i64 s2, .int .i64 s3, .int .i64 s4, .int .i64 s5] 51) = W at HQ hb0 ⊢
  refine (rbCheck_any b v W t ht HQ.out).mono ?_
  rintro e w1 ⟨rfl, hb1⟩
  have _hd : (t != 0) = true := by simp [h0]
  go_wp2
  go_ret2
  exact ⟨rfl, hb0.trans (hb1.mono hb0.size)⟩
set_option maxHeartbeats 2000000 in
theorem rbHolds_in (b : List Iq) (s : St) (v : Value) (w : World) (t : Bool) (er : Int) (h0 : Hid (barT b = 0)) (ht : Hid ((if s.numsB = true then (inB b s, 0) else (false, 1)) = (t, er))) (hQ : BarAt w w.heap.size v b) :
    Calls Try.prog 36 #[v, s.v] w fun e w' => e = .returned (.tuple #[.bool t, .int .i64 er]) ∧ Below w.heap.size w w' := by
  obtain ⟨s0, s1, s2, s3, s4, s5⟩ := s
  have hb0 := (Below.refl w.heap.size w).alloc (Nat.le_refl _) (.cells #[.int .i64 s0, .int .i64 s1, .int .i64 s2, .int .i64 s3, .int .i64 s4, .int .i64 s5] 51)
  have Y := Box.new w [.int .i64 s0, .int .i64 s1, .int .i64 s2, .int .i64 s3, .int .i64 s4, .int .i64 s5] 51
  have HQ := Lib.hid (hQ.later hb0)
  clear hQ
  go_enter Try.func36, Try.ntmps36
  go_wp2_with fail
  generalize w.alloc (.cells #[.int .i64 s0, .int .i64 s1, .int .i64 s2, .int .i64 s3, .int .i64 s4, .int .i64 s5] 51) = W at HQ hb0 Y ⊢
  refine (rbCheck_any b v W 0 h0 HQ.out).mono ?_
  rintro e w1 ⟨rfl, hb1⟩
  have Y1 := Y.later hb1
  have HQ1 := Lib.hid ((HQ.out.below hb1).more hb1.size)
  have hyz := Y1.lt
  have Y1c0 : w1.cell? ⟨w.heap.size, 0, none⟩ = some (.int .i64 s0) := Y1.cell 0
  have Y1c1 : w1.cell? ⟨w.heap.size, 1, none⟩ = some (.int .i64 s1) := Y1.cell 1
  have Y1c2 : w1.cell? ⟨w.heap.size, 2, none⟩ = some (.int .i64 s2) := Y1.cell 2
  have Y1c3 : w1.cell? ⟨w.heap.size, 3, none⟩ = some (.int .i64 s3) := Y1.cell 3
  have Y1c4 : w1.cell? ⟨w.heap.size, 4, none⟩ = some (.int .i64 s4) := Y1.cell 4
  have Y1c5 : w1.cell? ⟨w.heap.size, 5, none⟩ = some (.int .i64 s5) := Y1.cell 5
  go_upto_region 6 with fail
  have hb1 := hb0.trans (hb1.mono hb0.size)
  have Z := Box.new w1 [.int .i64 s0, .int .i64 s1, .int .i64 s2, .int .i64 s3, .int .i64 s4, .int .i64 s5] 3
  have Y1 := Y1.alloc (.cells #[.int .i64 s0, .int .i64 s1, .int .i64 s2, .int .i64 s3, .int .i64 s4, .int .i64 s5] 3)
  have hb2 := (Below.refl w1.heap.size w1).alloc (Nat.le_refl _) (.cells #[.int .i64 s0, .int .i64 s1, .int .i64 s2, .int .i64 s3, .int .i64 s4, .int .i64 s5] 3)
  have HQ2 := Lib.hid ((HQ1.out.below hb2).more hb2.size)
  have hb3 := hb1.trans (hb2.mono hb1.size)
  clear Y1c0 Y1c1 Y1c2 Y1c3 Y1c4 Y1c5 hb2 hb1 HQ HQ1 Y hb0 hyz
  generalize w1.alloc (.cells #[.int .i64 s0, .int .i64 s1, .int .i64 s2, .int .i64 s3, .int .i64 s4, .int .i64 s5] 3) = W3 at hb3 Z Y1 HQ2 ⊢
  generalize w1.heap.size = S at Z ⊢
  have hyz := Y1.lt
  obtain ⟨ys, hys⟩ : ∃ ys, [s0, s1, s2, s3, s4, s5] = ys := ⟨_, rfl⟩
  have hyl : ys.length = 6 := by rw [← hys]; rfl
  have hZ : ∀ k (hk : k < ys.length), W3.cell? ⟨S, k, none⟩ = some (.int .i64 ys[k]) := by
    intro k hk
    rw [Z.cell k]
    have e : ([.int .i64 s0, .int .i64 s1, .int .i64 s2, .int .i64 s3, .int .i64 s4, .int .i64 s5] : List Value) = ys.map (fun x => .int .i64 x) := by rw [← hys]; rfl
    rw [e, List.getElem?_map, List.getElem?_eq_getElem hk]
    rfl
  have hni := nums_in ⟨s0, s1, s2, s3, s4, s5⟩
  dsimp only at hni
  rw [hys] at hni
  have HNI := Lib.hid hni
  have HZ := Lib.hid hZ
  have HYL := Lib.hid hyl
  clear Z hys hZ hyl hni
  have Y1c0 : W3.cell? ⟨w.heap.size, 0, none⟩ = some (.int .i64 s0) := Y1.cell 0
  have Y1c1 : W3.cell? ⟨w.heap.size, 1, none⟩ = some (.int .i64 s1) := Y1.cell 1
  have Y1c2 : W3.cell? ⟨w.heap.size, 2, none⟩ = some (.int .i64 s2) := Y1.cell 2
  have Y1c3 : W3.cell? ⟨w.heap.size, 3, none⟩ = some (.int .i64 s3) := Y1.cell 3
  have Y1c4 : W3.cell? ⟨w.heap.size, 4, none⟩ = some (.int .i64 s4) := Y1.cell 4
  have Y1c5 : W3.cell? ⟨w.heap.size, 5, none⟩ = some (.int .i64 s5) := Y1.cell 5
  go_loopw [8] (fun i wr => ∃ k : Nat, k ≤ 6 ∧ i = .int .i64 k ∧ wr = W3 ∧ Hid ((ys.take k).all (fun n => inI n 0 1048576) = true)) (fun i _ => 6 - (intOf i).toNat)
  case atStart => exact ⟨0, by omega, rfl, rfl, rfl⟩
  case round =>
    obtain ⟨k, hk, rfl, rfl, hall2⟩ := hrel
    by_cases hlt2 : k < 6
    · have hk6 : k < ys.length := by rw [HYL.out]; exact hlt2
      have q0 := HZ.out k hk6
      have ht2 := bTake ys (fun n => inI n 0 1048576) hk6
      have hb2 := bBad (l := ys) (f := fun n => inI n 0 1048576) hk6
      obtain ⟨y, hy⟩ : ∃ y, ys[k] = y := ⟨_, rfl⟩
      rw [hy] at q0 ht2 hb2
      rw [hall2.out, Bool.true_and] at ht2
      have ht2 := Lib.hid ht2
      have hb2 := Lib.hid hb2
      clear hy
      have hlk : decide ((k : Int) < 6) = true := decide_eq_true (by omega)
      obtain ⟨u, hu⟩ : ∃ u, inI y 0 1048576 = u := ⟨_, rfl⟩
      go_wp2_with fail
      refine (rbWithin_at hu _).mono ?_
      rintro e w1 ⟨rfl, rfl⟩
      cases u with
      | true =>
        go_wp2
        refine ⟨⟨k + 1, by omega, by go_num, trivial, ?_⟩, by simp [intOf]; omega⟩
        rw [Hid, ht2.out]
        exact hu
      | false =>
        have hF : Hid (false = t ∧ 1 = er) := by
          have := ht.out
          rw [if_neg (by rw [HNI.out, hb2.out hu]; decide)] at this
          exact Lib.hid (by simpa using this)
        go_wp2
        go_ret2
        obtain ⟨rfl, rfl⟩ := hF.out
        exact ⟨rfl, hb3⟩
    · obtain rfl : k = 6 := by omega
      have ha := hall2.out
      rw [List.take_of_length_le (by rw [HYL.out]; exact Nat.le_refl _)] at ha
      rw [← HNI.out] at ha
      have hF : Hid (inB b ⟨s0, s1, s2, s3, s4, s5⟩ = t ∧ 0 = er) := by
        have := ht.out
        rw [if_pos ha] at this
        exact Lib.hid (by simpa using this)
      have HA := Lib.hid ha
      clear ha
      go_wp2_with fail
      refine (rbIn_any b ⟨s0, s1, s2, s3, s4, s5⟩ v _ t (Lib.hid hF.out.1) HQ2.out (barT_ok h0.out) HA).mono ?_
      rintro e w4 ⟨rfl, hb4⟩
      go_wp2
      go_ret2
      obtain ⟨_, rfl⟩ := hF.out
      exact ⟨rfl, hb3.trans (hb4.mono hb3.size)⟩
theorem rbHolds_is {b : List Iq} {s : St} {v : Value} {w : World} {t : Bool} {er : Int} (h : Hid (holdsT b s = (t, er))) (hQ : BarAt w w.heap.size v b) :
    Calls Try.prog 36 #[v, s.v] w fun e w' => e = .returned (.tuple #[.bool t, .int .i64 er]) ∧ Below w.heap.size w w' := by
  have h := h.out
  unfold holdsT at h
  by_cases h0 : barT b = 0
  · rw [if_pos h0] at h
    exact rbHolds_in b s v w t er h0 h hQ
  · rw [if_neg h0] at h
    simp only [Prod.mk.injEq] at h
    obtain ⟨rfl, h2⟩ := h
    exact rbHolds_bad b s v w er h2 (by omega) hQ
end Go.Proofs.Ytcjcjkomcolgeaa
