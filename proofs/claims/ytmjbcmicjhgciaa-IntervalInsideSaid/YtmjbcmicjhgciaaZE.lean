/-
  Scale, and Scale of the specification.
-/
import Derived.Test.YtmjbcmicjhgciaaZA
import Derived.Test.YtmjbcmicjhgciaaZD
import Derived.Test.YtmjbcmicjhgciaaC
namespace Go.Proofs.Ytmjbcmicjhgciaa
open Go.RowKit

theorem ratB_bd {n d : Int} (h : ratC n d = 0) : (1 ≤ d ∧ d ≤ 1073741824) ∧ -1073741824 ≤ n ∧ n ≤ 1073741824 := by
  unfold ratC at h
  split at h
  · rename_i h'
    have := of_decide_eq_true h'
    exact ⟨⟨this.1, this.2.1⟩, this.2.2.1, this.2.2.2.1⟩
  · omega

theorem sc_far1 {a b n d p q : Int} (hab : okR a b = true) (hd : 1 ≤ d) (h : aroundP a n d p q false) : Hid (scT a b n d 0 = (0, 0, 2)) := by
  rcases h with ⟨h, _⟩ | ⟨_, h⟩
  · cases h
  · rw [Hid, scT, if_pos hab, if_pos rfl]
    exact far_cut (by omega) h (Int.min_le_left _ _) (Int.le_max_left _ _)
theorem sc_far2 {a b n d p q : Int} (hab : okR a b = true) (hd : 1 ≤ d) (h : aroundP b n d p q false) : Hid (scT a b n d 0 = (0, 0, 2)) := by
  rcases h with ⟨h, _⟩ | ⟨_, h⟩
  · cases h
  · rw [Hid, scT, if_pos hab, if_pos rfl]
    exact far_cut (by omega) h (Int.min_le_right _ _) (Int.le_max_right _ _)
theorem sc_near {a b n d p q s t : Int} (hab : okR a b = true) (h1 : aroundP a n d p q true) (h2 : aroundP b n d s t true) : Hid (scT a b n d 0 = cutT (min p s) (max q t)) := by
  rcases h1 with ⟨_, h1, h1'⟩ | ⟨h, _⟩
  · rcases h2 with ⟨_, h2, h2'⟩ | ⟨h, _⟩
    · rw [Hid, scT, if_pos hab, if_pos rfl, h1, h2, h1', h2']
    · cases h
  · cases h
theorem around_le {a n d p q : Int} (hd : 1 ≤ d) (h : aroundP a n d p q true) : p ≤ q := by
  rcases h with ⟨_, h1, h1'⟩ | ⟨h, _⟩
  · rw [h1, h1']; exact flo_le_cei _ _ (by omega)
  · cases h
theorem hull3s {p q s t : Int} (h1 : p ≤ q) (h2 : s ≤ t) : hullT p [q, s, t] = cutT (min p s) (max q t) := by
  have e1 : loL p [q, s, t] = min p s := by
    simp only [loL, List.foldl_cons, List.foldl_nil]
    repeat' split
    all_goals omega
  have e2 : hiL p [q, s, t] = max q t := by
    simp only [hiL, List.foldl_cons, List.foldl_nil]
    repeat' split
    all_goals omega
  rw [hullT, e1, e2]

set_option maxRecDepth 100000 in
set_option maxHeartbeats 2000000 in
theorem Scale_any (a b n d : Int) (w : World) : Calls Try.prog 25 #[rng a b, rat n d] w (Ret (scT a b n d (ratC n d)) w) := by
  have hmf : ∀ (fn : Fn) (first cap : Array Value) (w : World), (Instr.makeFunc fn first cap).run Try.prog w = .ok (.func fn first cap) w := fun _ _ _ _ => rfl
  go_enter Try.func25, Try.ntmps25
  go_wp2_with fail
  refine (valid1 _ a b _ (by go_simp) (by go_simp)).mono ?_
  rintro e w1 ⟨q, rfl, hq, hB1⟩
  have hB2 : Below w.heap.size w w1 := (((Below.refl _ w).alloc (Nat.le_refl _) _).alloc (by simp) _ |>.alloc (by simp; omega) _ |>.alloc (by simp; omega) _).trans (hB1.mono (by simp; omega))
  have X1 := ((((Box.new w [.int .i64 a, .int .i64 b] 23).alloc _).alloc _).alloc _).later hB1
  have X2 := (((Box.newAt (n := w.heap.size + 1) [.int .i64 n, .int .i64 d] 31 (by simp)).alloc _).alloc _).later hB1
  have X3 := ((Box.newAt (n := w.heap.size + 1 + 1) [.int .i64 0, .int .i64 0] 23 (by simp)).alloc _).later hB1
  clear hB1
  obtain ⟨⟨c1, c1'⟩, f1, f1'⟩ := X1.two
  obtain ⟨⟨c2, c2'⟩, f2, f2'⟩ := X2.two
  obtain ⟨⟨c3, c3'⟩, f3, f3'⟩ := X3.two
  cases q
  · go_wp2
    refine bodyPost_ret (v := .tuple #[rng 0 0, .int .i64 130]) (by simp [results, Try.results25, go_sem, c3, c3']) rfl ⟨0, 0, 130, rfl, ?_, by repeat (first | assumption | refine Below.setCell ?_ (by simp <;> omega) _)⟩
    have h := hq.out
    simp [Hid, scT, h]
  · go_wp2_with fail
    refine (ratioCheck_any n d _).mono ?_
    rintro e w2 ⟨v, rfl, hv, hB⟩
    have hB3 := hB2.trans (hB.mono hB2.size)
    have Y1 := X1.later hB
    have Y2 := X2.later hB
    have Y3 := X3.later hB
    clear hB c1 c1' f1 f1' c2 c2' f2 f2' c3 c3' f3 f3' X1 X2 X3 hB2
    obtain ⟨⟨c1, c1'⟩, f1, f1'⟩ := Y1.two
    obtain ⟨⟨c2, c2'⟩, f2, f2'⟩ := Y2.two
    obtain ⟨⟨c3, c3'⟩, f3, f3'⟩ := Y3.two
    rcases hv0 : (v != 0) with _ | _
    · have hve : v = 0 := by simpa using hv0
      subst hve
      obtain ⟨hd, hn⟩ := ratB_bd hv.out
      obtain ⟨b1, b2, b3⟩ := okR_bd hq.out
      obtain ⟨D, rfl⟩ : ∃ D : Nat, d = (D : Int) := ⟨d.toNat, by omega⟩
      have z1 := Y1.lt
      go_wp2_with fail
      refine (around_any a n D _ _ Y2 ⟨by omega, by omega⟩ hn ⟨by omega, by omega⟩).mono ?_
      rintro e w3 ⟨p, q, ok1, rfl, hA, k1, rfl⟩
      have Z1 : Box (w2.drewN k1) _ _ := Y1
      have Z2 : Box (w2.drewN k1) _ _ := Y2
      have Z3 : Box (w2.drewN k1) _ _ := Y3
      have hB4 := Below.drewN hB3 k1
      clear c1 c1' f1 f1' c2 c2' f2 f2' c3 c3' f3 f3' Y1 Y2 Y3 hB3
      generalize w2.drewN k1 = w3 at *
      obtain ⟨⟨c1, c1'⟩, f1, f1'⟩ := Z1.two
      obtain ⟨⟨c2, c2'⟩, f2, f2'⟩ := Z2.two
      obtain ⟨⟨c3, c3'⟩, f3, f3'⟩ := Z3.two
      go_wp2_with fail
      refine (around_any b n D _ _ Z2 ⟨by omega, by omega⟩ hn ⟨by omega, by omega⟩).mono ?_
      rintro e w4 ⟨s, t, ok2, rfl, hA2, k2, rfl⟩
      have Y1 : Box (w3.drewN k2) _ _ := Z1
      have Y2 : Box (w3.drewN k2) _ _ := Z2
      have Y3 : Box (w3.drewN k2) _ _ := Z3
      have hB5 := Below.drewN hB4 k2
      clear c1 c1' f1 f1' c2 c2' f2 f2' c3 c3' f3 f3' Z1 Z2 Z3 hB4
      generalize w3.drewN k2 = w4 at *
      obtain ⟨⟨c3, c3'⟩, f3, f3'⟩ := Y3.two
      cases ok1
      · go_wp2
        refine bodyPost_ret (v := .tuple #[rng 0 0, .int .i64 2]) (by simp [results, Try.results25, go_sem, c3, c3']) rfl ⟨0, 0, 2, rfl, ?_, by repeat (first | assumption | refine Below.setCell ?_ (by simp <;> omega) _)⟩
        have := sc_far1 hq.out hd.1 hA.out
        show _ = _; rw [hv.out]; exact this
      · cases ok2
        · go_wp2
          refine bodyPost_ret (v := .tuple #[rng 0 0, .int .i64 2]) (by simp [results, Try.results25, go_sem, c3, c3']) rfl ⟨0, 0, 2, rfl, ?_, by repeat (first | assumption | refine Below.setCell ?_ (by simp <;> omega) _)⟩
          have := sc_far2 hq.out hd.1 hA2.out
          show _ = _; rw [hv.out]; exact this
        · have z3 := Y3.lt
          go_wp2_with fail
          refine (hull_any p _ 0 3 [q, s, t] _ (by simp) (by simp) ?_).mono ?_
          · intro i hi
            have hi' : i < 3 := by simpa using hi
            rcases i with _ | _ | _ | i
            · go_simp
            · go_simp
            · go_simp
            · omega
          · rintro e w5 ⟨lo, hi, er, rfl, hr, hB⟩
            have hB6 := (hB5.alloc (by have := hB5.size; omega) _).trans (hB.mono (by have := hB5.size; simp; omega))
            have Z3 := (Y3.alloc _).later hB
            clear hB c3 c3' f3 f3' Y3 hB5
            obtain ⟨⟨c3, c3'⟩, f3, f3'⟩ := Z3.two
            go_wp2
            refine bodyPost_ret (v := .tuple #[rng lo hi, .int .i64 er]) (by simp [results, Try.results25, go_sem, c3, c3']) rfl ⟨lo, hi, er, rfl, ?_, by repeat (first | assumption | refine Below.setCell ?_ (by simp <;> omega) _)⟩
            have h1 := sc_near hq.out hA.out hA2.out
            have h2 := hr.out
            rw [hull3s (around_le hd.1 hA.out) (around_le hd.1 hA2.out)] at h2
            show _ = _
            rw [hv.out, h1.out, h2]
    · go_wp2
      refine bodyPost_ret (v := .tuple #[rng 0 0, .int .i64 v]) (by simp [results, Try.results25, go_sem, c3, c3']) rfl ⟨0, 0, v, rfl, ?_, by repeat (first | assumption | refine Below.setCell ?_ (by simp <;> omega) _)⟩
      have h := hq.out
      have hv' : v ≠ 0 := by simpa using hv0
      rw [Hid, scT, if_pos h, hv.out, if_neg hv']

set_option maxRecDepth 100000 in
set_option maxHeartbeats 2000000 in
theorem rScale_any (a b n d : Int) (w : World) : Calls Try.prog 26 #[rng a b, rat n d] w (Ret (scT a b n d (ratC n d)) w) := by
  go_enter Try.func26, Try.ntmps26
  go_wp2_with fail
  refine (Valid_any a b _).mono ?_
  rintro e w1 ⟨q, rfl, hq, hB1⟩
  have hB2 : Below w.heap.size w w1 := (((Below.refl _ w).alloc (Nat.le_refl _) _).alloc (by simp) _ |>.alloc (by simp; omega) _).trans (hB1.mono (by simp; omega))
  have X1 := (((Box.new w [.int .i64 a, .int .i64 b] 23).alloc _).alloc _).later hB1
  have X2 := ((Box.newAt (n := w.heap.size + 1) [.int .i64 n, .int .i64 d] 31 (by simp)).alloc _).later hB1
  have X3 := (Box.newAt (n := w.heap.size + 1 + 1) [.int .i64 0, .int .i64 0] 23 (by simp)).later hB1
  clear hB1
  obtain ⟨⟨c1, c1'⟩, f1, f1'⟩ := X1.two
  obtain ⟨⟨c2, c2'⟩, f2, f2'⟩ := X2.two
  obtain ⟨⟨c3, c3'⟩, f3, f3'⟩ := X3.two
  cases q
  · go_wp2
    refine bodyPost_ret (v := .tuple #[rng 0 0, .int .i64 130]) (by simp [results, Try.results26, go_sem, c3, c3']) rfl ⟨0, 0, 130, rfl, ?_, by repeat (first | assumption | refine Below.setCell ?_ (by simp <;> omega) _)⟩
    have h := hq.out
    simp [Hid, scT, h]
  · go_wp2_with fail
    refine (rCheck12_any n d _).mono ?_
    rintro e w2 ⟨v, rfl, hv, hB⟩
    have hB3 := hB2.trans (hB.mono hB2.size)
    have Y1 := X1.later hB
    have Y2 := X2.later hB
    have Y3 := X3.later hB
    clear hB c1 c1' f1 f1' c2 c2' f2 f2' c3 c3' f3 f3' X1 X2 X3 hB2
    obtain ⟨⟨c1, c1'⟩, f1, f1'⟩ := Y1.two
    obtain ⟨⟨c2, c2'⟩, f2, f2'⟩ := Y2.two
    obtain ⟨⟨c3, c3'⟩, f3, f3'⟩ := Y3.two
    rcases hv0 : (v != 0) with _ | _
    · have hve : v = 0 := by simpa using hv0
      subst hve
      obtain ⟨hd, hn⟩ := ratB_bd hv.out
      obtain ⟨b1, b2, b3⟩ := okR_bd hq.out
      go_wp2_with fail
      refine (scaled_any a n d _ hd hn ⟨by omega, by omega⟩).mono ?_
      rintro e w3 ⟨p, q, ok1, rfl, hA, hB⟩
      have hB4 := hB3.trans (hB.mono hB3.size)
      have Z1 := Y1.later hB
      have Z2 := Y2.later hB
      have Z3 := Y3.later hB
      clear hB c1 c1' f1 f1' c2 c2' f2 f2' c3 c3' f3 f3' Y1 Y2 Y3 hB3
      obtain ⟨⟨c1, c1'⟩, f1, f1'⟩ := Z1.two
      obtain ⟨⟨c2, c2'⟩, f2, f2'⟩ := Z2.two
      obtain ⟨⟨c3, c3'⟩, f3, f3'⟩ := Z3.two
      go_wp2_with fail
      refine (scaled_any b n d _ hd hn ⟨by omega, by omega⟩).mono ?_
      rintro e w4 ⟨s, t, ok2, rfl, hA2, hB⟩
      have hB5 := hB4.trans (hB.mono hB4.size)
      have Y3 := Z3.later hB
      clear hB c1 c1' f1 f1' c2 c2' f2 f2' c3 c3' f3 f3' Z1 Z2 Z3 hB4
      obtain ⟨⟨c3, c3'⟩, f3, f3'⟩ := Y3.two
      cases ok1
      · go_wp2
        refine bodyPost_ret (v := .tuple #[rng 0 0, .int .i64 2]) (by simp [results, Try.results26, go_sem, c3, c3']) rfl ⟨0, 0, 2, rfl, ?_, by repeat (first | assumption | refine Below.setCell ?_ (by simp <;> omega) _)⟩
        have := sc_far1 hq.out hd.1 hA.out
        show _ = _; rw [hv.out]; exact this
      · cases ok2
        · go_wp2
          refine bodyPost_ret (v := .tuple #[rng 0 0, .int .i64 2]) (by simp [results, Try.results26, go_sem, c3, c3']) rfl ⟨0, 0, 2, rfl, ?_, by repeat (first | assumption | refine Below.setCell ?_ (by simp <;> omega) _)⟩
          have := sc_far2 hq.out hd.1 hA2.out
          show _ = _; rw [hv.out]; exact this
        · go_wp2_with fail
          refine (result_any (min p s) (max q t) _).mono ?_
          rintro e w5 ⟨lo, hi, er, rfl, hr, hB⟩
          have hB6 := hB5.trans (hB.mono hB5.size)
          have Z3 := Y3.later hB
          clear hB c3 c3' f3 f3' Y3 hB5
          obtain ⟨⟨c3, c3'⟩, f3, f3'⟩ := Z3.two
          go_wp2
          refine bodyPost_ret (v := .tuple #[rng lo hi, .int .i64 er]) (by simp [results, Try.results26, go_sem, c3, c3']) rfl ⟨lo, hi, er, rfl, ?_, by repeat (first | assumption | refine Below.setCell ?_ (by simp <;> omega) _)⟩
          have h1 := sc_near hq.out hA.out hA2.out
          have h2 := hr.out
          show _ = _
          rw [hv.out, h1.out, h2]
    · go_wp2
      refine bodyPost_ret (v := .tuple #[rng 0 0, .int .i64 v]) (by simp [results, Try.results26, go_sem, c3, c3']) rfl ⟨0, 0, v, rfl, ?_, by repeat (first | assumption | refine Below.setCell ?_ (by simp <;> omega) _)⟩
      have h := hq.out
      have hv' : v ≠ 0 := by simpa using hv0
      rw [Hid, scT, if_pos h, hv.out, if_neg hv']

end Go.Proofs.Ytmjbcmicjhgciaa
