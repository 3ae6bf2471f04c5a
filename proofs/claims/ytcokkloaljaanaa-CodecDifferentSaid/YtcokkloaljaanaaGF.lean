/-
  The law CodecDifferent. (Printed by gen_gf.py.)
-/
import Derived.Test.YtcokkloaljaanaaGE
namespace Go.Proofs.Ytcokkloaljaanaa
open Go.RowKit
attribute [local go_sem ↓ high] app_named

theorem BsAt.take {w : World} {S : Nat → Prop} {A : Option Addr} {n c : Nat} {l : Bs} (h : BsAt w S (.slice A n c) l) {m : Nat} (hm : m ≤ l.length) : BsAt w S (.slice A m c) (l.take m) := by
  obtain ⟨hf, A', c', hv, hn, h1⟩ := h
  have e1 : n = l.length := by injection hv
  have e2 : A' = A := by injection hv with h _ _; exact h.symm
  have e3 : c' = c := by injection hv with _ _ h; exact h.symm
  subst e2 e3
  refine ⟨?_, A', c', by rw [List.length_take, Nat.min_eq_left hm], by rw [List.length_take]; omega, fun i hi => ?_⟩
  · rcases hf with h2 | ⟨a, n', c'', h2, h3, h4⟩
    · injection h2 with h5 h6 h7
      subst h5 h7
      obtain rfl : m = 0 := by omega
      exact .inl rfl
    · injection h2 with h5 h6 h7
      subst h5 h7
      exact .inr ⟨a, m, _, rfl, by omega, h4⟩
  · rw [List.length_take] at hi
    obtain ⟨b, off, e, hS, hb, h3⟩ := h1 i (by omega)
    refine ⟨b, off, e, hS, hb, fun j hj => ?_⟩
    rw [h3 j hj]
    simp [List.getD_eq_getElem?_getD, show i < m by omega]
theorem same_false {x y : Val} (h : x.same y = false) : x ≠ y := fun e => by rw [(Val.same_iff x y).2 e] at h; cases h
theorem pre_ne {x y : Val} (hx : x.okB = true) (hy : y.okB = true) (fx : x.fits) (fy : y.fits) (h : x ≠ y) : x.enc.take (min x.enc.length y.enc.length) ≠ y.enc.take (min x.enc.length y.enc.length) := fun e => by
  rcases Nat.le_total x.enc.length y.enc.length with hl | hl
  · rw [Nat.min_eq_left hl, List.take_length] at e
    have := List.take_append_drop x.enc.length y.enc
    rw [← e] at this
    exact h (enc_prefix (r := y.enc.drop x.enc.length) (s := []) hx hy fx fy (by rw [this, List.append_nil])).1
  · rw [Nat.min_eq_right hl, List.take_length] at e
    have := List.take_append_drop y.enc.length x.enc
    rw [e] at this
    exact h (enc_prefix (r := []) (s := x.enc.drop y.enc.length) hx hy fx fy (by rw [this, List.append_nil])).1
theorem strB_ne' {s t : Bs} (h : s ≠ t) : ((strB s).toList == (strB t).toList) = false := by rw [strB_toList, strB_toList]; exact beq_false_of_ne h
theorem enc_pos (x : Val) : 0 < x.enc.length := by
  rcases x with ⟨k, n, s, l⟩
  rw [Val.enc]
  split
  · simp
  · split <;> simp

set_option maxRecDepth 100000 in
set_option maxHeartbeats 8000000 in
theorem lawD_no (k n : Int) (s : Bs) (l : List Val) (A : Option Addr) (m c : Nat) (k2 n2 : Int) (s2 : Bs) (l2 : List Val) (A2 : Option Addr) (m2 c2 : Nat) (d : Nat) (w : World) (hV : Hid (ValsAt w w.heap.size d (.slice A m c) l)) (hV2 : Hid (ValsAt w w.heap.size d (.slice A2 m2 c2) l2)) (hx : Hid (Val.mk k n s l).fits) (hy : Hid (Val.mk k2 n2 s2 l2).fits) (hq : Hid ((fewV (.mk k n s l) && (fewV (.mk k2 n2 s2 l2) && true)) = false)) : Calls Try.prog 7 #[.agg #[.int .i64 k, .int .i64 n, .string (strB s), .slice A m c], .agg #[.int .i64 k2, .int .i64 n2, .string (strB s2), .slice A2 m2 c2]] w (fun e w' => e = .returned (.bool true) ∧ Below w.heap.size w w') := by
  have hB := Below.refl w.heap.size w
  go_enter Try.func7, Try.ntmps7
  go_wp2_with fail
  have hst := (((Below.refl w.heap.size w).alloc (by simp <;> omega) (.cells #[.int .i64 k, .int .i64 n, .string (strB s), .slice A m c] 24)).alloc (by simp <;> omega) (.cells #[.int .i64 k2, .int .i64 n2, .string (strB s2), .slice A2 m2 c2] 24))
  have hBo := hB
  have hV := vals_later hV hst
  have hV2 := vals_later hV2 hst
  have hB := hB.trans (hst.mono hB.size)
  have X0 := ((Box.newAt (w := w) (n := w.heap.size) [.int .i64 k, .int .i64 n, .string (strB s), .slice A m c] 24 (by simp)).alloc (.cells #[.int .i64 k2, .int .i64 n2, .string (strB s2), .slice A2 m2 c2] 24))
  have Y0 := (Box.newAt (w := (w.alloc (.cells #[.int .i64 k, .int .i64 n, .string (strB s), .slice A m c] 24))) (n := w.heap.size + 1) [.int .i64 k2, .int .i64 n2, .string (strB s2), .slice A2 m2 c2] 24 (by simp))
  clear hst
  generalize ((w.alloc (.cells #[.int .i64 k, .int .i64 n, .string (strB s), .slice A m c] 24)).alloc (.cells #[.int .i64 k2, .int .i64 n2, .string (strB s2), .slice A2 m2 c2] 24)) = w1 at hB  X0 Y0 hV hV2 ⊢
  generalize w.heap.size + 1 = Y0a at X0 Y0 ⊢
  generalize w.heap.size = X0a at X0 Y0 ⊢
  refine (sane_any _).mono ?_
  rintro e w2 ⟨rfl, hb⟩
  have X0 := X0.later hb
  have Y0 := Y0.later hb
  have hV := vals_later hV hb
  have hV2 := vals_later hV2 hb
  have hB := hB.trans (hb.mono hB.size)
  clear hb
  have X0c0 : w2.cell? ⟨X0a, 0, none⟩ = some (.int .i64 k) := X0.cell 0
  have X0c1 : w2.cell? ⟨X0a, 1, none⟩ = some (.int .i64 n) := X0.cell 1
  have X0c2 : w2.cell? ⟨X0a, 2, none⟩ = some (.string (strB s)) := X0.cell 2
  have X0c3 : w2.cell? ⟨X0a, 3, none⟩ = some (.slice A m c) := X0.cell 3
  have X0z : X0a < w2.heap.size := X0.lt
  have Y0c0 : w2.cell? ⟨Y0a, 0, none⟩ = some (.int .i64 k2) := Y0.cell 0
  have Y0c1 : w2.cell? ⟨Y0a, 1, none⟩ = some (.int .i64 n2) := Y0.cell 1
  have Y0c2 : w2.cell? ⟨Y0a, 2, none⟩ = some (.string (strB s2)) := Y0.cell 2
  have Y0c3 : w2.cell? ⟨Y0a, 3, none⟩ = some (.slice A2 m2 c2) := Y0.cell 3
  have Y0z : Y0a < w2.heap.size := Y0.lt
  go_wp2_with fail
  clear X0c0 X0c1 X0c2 X0c3 X0z Y0c0 Y0c1 Y0c2 Y0c3 Y0z
  have hst := ((Below.refl w2.heap.size w2).alloc (by simp <;> omega) (.cells #[.int .i64 k, .int .i64 n, .string (strB s), .slice A m c, .int .i64 k2, .int .i64 n2, .string (strB s2), .slice A2 m2 c2] 24))
  have hBo := hB
  have X0o := X0
  have X0 := X0.later hst
  have Y0o := Y0
  have Y0 := Y0.later hst
  have hV := vals_later hV hst
  have hV2 := vals_later hV2 hst
  have hB := hB.trans (hst.mono hB.size)
  have F := (Box.newAt (w := w2) (n := w2.heap.size) [.int .i64 k, .int .i64 n, .string (strB s), .slice A m c, .int .i64 k2, .int .i64 n2, .string (strB s2), .slice A2 m2 c2] 24 (by simp))
  clear hst
  generalize (w2.alloc (.cells #[.int .i64 k, .int .i64 n, .string (strB s), .slice A m c, .int .i64 k2, .int .i64 n2, .string (strB s2), .slice A2 m2 c2] 24)) = w3 at hB X0 Y0 F hV hV2 ⊢
  generalize w2.heap.size = Fa at F ⊢
  have HF := few_any _ [.mk k n s l, .mk k2 n2 s2 l2] _ _ (two_at F hV.out hV2.out) ⟨hx.out, hy.out, trivial⟩ false (Lib.hid (by rw [List.all_cons, List.all_cons]; exact hq.out))
  go_wp2_with fail
  refine (HF).mono ?_
  rintro e w4 ⟨rfl, hb⟩
  have X0 := X0.later hb
  have Y0 := Y0.later hb
  have F := F.later hb
  have hV := vals_later hV hb
  have hV2 := vals_later hV2 hb
  have hB := hB.trans (hb.mono hB.size)
  clear hb
  clear HF
  clear F
  go_wp2
  go_ret
  exact ⟨rfl, hB⟩

set_option maxRecDepth 100000 in
set_option maxHeartbeats 8000000 in
theorem lawD_err1 (k n : Int) (s : Bs) (l : List Val) (A : Option Addr) (m c : Nat) (k2 n2 : Int) (s2 : Bs) (l2 : List Val) (A2 : Option Addr) (m2 c2 : Nat) (d : Nat) (w : World) (hV : Hid (ValsAt w w.heap.size d (.slice A m c) l)) (hV2 : Hid (ValsAt w w.heap.size d (.slice A2 m2 c2) l2)) (hx : Hid (Val.mk k n s l).fits) (hy : Hid (Val.mk k2 n2 s2 l2).fits) (hq : Hid ((fewV (.mk k n s l) && (fewV (.mk k2 n2 s2 l2) && true)) = true)) (hd : Hid (d ≤ 1000)) (hl : Hid ((Val.mk k n s l).enc.length ≤ 79000000)) (hl2 : Hid ((Val.mk k2 n2 s2 l2).enc.length ≤ 79000000)) (T : Bs) (er : Int) (ht : Hid (encT (.mk k n s l) = (T, er))) (tn : Nat) (htn : Hid (T.length = tn)) (T2 : Bs) (er2 : Int) (ht2 : Hid (encT (.mk k2 n2 s2 l2) = (T2, er2))) (tn2 : Nat) (htn2 : Hid (T2.length = tn2)) (he : er ≠ 0) : Calls Try.prog 7 #[.agg #[.int .i64 k, .int .i64 n, .string (strB s), .slice A m c], .agg #[.int .i64 k2, .int .i64 n2, .string (strB s2), .slice A2 m2 c2]] w (fun e w' => e = .returned (.bool true) ∧ Below w.heap.size w w') := by
  have hB := Below.refl w.heap.size w
  go_enter Try.func7, Try.ntmps7
  go_wp2_with fail
  have hst := (((Below.refl w.heap.size w).alloc (by simp <;> omega) (.cells #[.int .i64 k, .int .i64 n, .string (strB s), .slice A m c] 24)).alloc (by simp <;> omega) (.cells #[.int .i64 k2, .int .i64 n2, .string (strB s2), .slice A2 m2 c2] 24))
  have hBo := hB
  have hV := vals_later hV hst
  have hV2 := vals_later hV2 hst
  have hB := hB.trans (hst.mono hB.size)
  have X0 := ((Box.newAt (w := w) (n := w.heap.size) [.int .i64 k, .int .i64 n, .string (strB s), .slice A m c] 24 (by simp)).alloc (.cells #[.int .i64 k2, .int .i64 n2, .string (strB s2), .slice A2 m2 c2] 24))
  have Y0 := (Box.newAt (w := (w.alloc (.cells #[.int .i64 k, .int .i64 n, .string (strB s), .slice A m c] 24))) (n := w.heap.size + 1) [.int .i64 k2, .int .i64 n2, .string (strB s2), .slice A2 m2 c2] 24 (by simp))
  clear hst
  generalize ((w.alloc (.cells #[.int .i64 k, .int .i64 n, .string (strB s), .slice A m c] 24)).alloc (.cells #[.int .i64 k2, .int .i64 n2, .string (strB s2), .slice A2 m2 c2] 24)) = w1 at hB  X0 Y0 hV hV2 ⊢
  generalize w.heap.size + 1 = Y0a at X0 Y0 ⊢
  generalize w.heap.size = X0a at X0 Y0 ⊢
  refine (sane_any _).mono ?_
  rintro e w2 ⟨rfl, hb⟩
  have X0 := X0.later hb
  have Y0 := Y0.later hb
  have hV := vals_later hV hb
  have hV2 := vals_later hV2 hb
  have hB := hB.trans (hb.mono hB.size)
  clear hb
  have X0c0 : w2.cell? ⟨X0a, 0, none⟩ = some (.int .i64 k) := X0.cell 0
  have X0c1 : w2.cell? ⟨X0a, 1, none⟩ = some (.int .i64 n) := X0.cell 1
  have X0c2 : w2.cell? ⟨X0a, 2, none⟩ = some (.string (strB s)) := X0.cell 2
  have X0c3 : w2.cell? ⟨X0a, 3, none⟩ = some (.slice A m c) := X0.cell 3
  have X0z : X0a < w2.heap.size := X0.lt
  have Y0c0 : w2.cell? ⟨Y0a, 0, none⟩ = some (.int .i64 k2) := Y0.cell 0
  have Y0c1 : w2.cell? ⟨Y0a, 1, none⟩ = some (.int .i64 n2) := Y0.cell 1
  have Y0c2 : w2.cell? ⟨Y0a, 2, none⟩ = some (.string (strB s2)) := Y0.cell 2
  have Y0c3 : w2.cell? ⟨Y0a, 3, none⟩ = some (.slice A2 m2 c2) := Y0.cell 3
  have Y0z : Y0a < w2.heap.size := Y0.lt
  go_wp2_with fail
  clear X0c0 X0c1 X0c2 X0c3 X0z Y0c0 Y0c1 Y0c2 Y0c3 Y0z
  have hst := ((Below.refl w2.heap.size w2).alloc (by simp <;> omega) (.cells #[.int .i64 k, .int .i64 n, .string (strB s), .slice A m c, .int .i64 k2, .int .i64 n2, .string (strB s2), .slice A2 m2 c2] 24))
  have hBo := hB
  have X0o := X0
  have X0 := X0.later hst
  have Y0o := Y0
  have Y0 := Y0.later hst
  have hV := vals_later hV hst
  have hV2 := vals_later hV2 hst
  have hB := hB.trans (hst.mono hB.size)
  have F := (Box.newAt (w := w2) (n := w2.heap.size) [.int .i64 k, .int .i64 n, .string (strB s), .slice A m c, .int .i64 k2, .int .i64 n2, .string (strB s2), .slice A2 m2 c2] 24 (by simp))
  clear hst
  generalize (w2.alloc (.cells #[.int .i64 k, .int .i64 n, .string (strB s), .slice A m c, .int .i64 k2, .int .i64 n2, .string (strB s2), .slice A2 m2 c2] 24)) = w3 at hB X0 Y0 F hV hV2 ⊢
  generalize w2.heap.size = Fa at F ⊢
  have HF := few_any _ [.mk k n s l, .mk k2 n2 s2 l2] _ _ (two_at F hV.out hV2.out) ⟨hx.out, hy.out, trivial⟩ true (Lib.hid (by rw [List.all_cons, List.all_cons]; exact hq.out))
  go_wp2_with fail
  refine (HF).mono ?_
  rintro e w4 ⟨rfl, hb⟩
  have X0 := X0.later hb
  have Y0 := Y0.later hb
  have F := F.later hb
  have hV := vals_later hV hb
  have hV2 := vals_later hV2 hb
  have hB := hB.trans (hb.mono hB.size)
  clear hb
  clear HF
  clear F
  have X0c0 : w4.cell? ⟨X0a, 0, none⟩ = some (.int .i64 k) := X0.cell 0
  have X0c1 : w4.cell? ⟨X0a, 1, none⟩ = some (.int .i64 n) := X0.cell 1
  have X0c2 : w4.cell? ⟨X0a, 2, none⟩ = some (.string (strB s)) := X0.cell 2
  have X0c3 : w4.cell? ⟨X0a, 3, none⟩ = some (.slice A m c) := X0.cell 3
  have X0z : X0a < w4.heap.size := X0.lt
  go_wp2_with fail
  clear X0c0 X0c1 X0c2 X0c3 X0z
  have HE : Calls Try.prog 12 #[.agg #[.int .i64 k, .int .i64 n, .string (strB s), .slice A m c]] w4 (RetEnc (T, er) w4) := by
    have := cEncode_any d hd.out (.mk k n s l) _ w4 hV.out hx.out hl.out
    rw [ht.out] at this
    exact this
  refine HE.mono ?_
  intro e w5 hh
  obtain ⟨Ae, ce, rfl, Be, hb⟩ := RetEnc.open hh htn
  clear hh HE
  have X0 := X0.later hb
  have Y0 := Y0.later hb
  have hV := vals_later hV hb
  have hV2 := vals_later hV2 hb
  have hB := hB.trans (hb.mono hB.size)
  clear hb
  have Y0c0 : w5.cell? ⟨Y0a, 0, none⟩ = some (.int .i64 k2) := Y0.cell 0
  have Y0c1 : w5.cell? ⟨Y0a, 1, none⟩ = some (.int .i64 n2) := Y0.cell 1
  have Y0c2 : w5.cell? ⟨Y0a, 2, none⟩ = some (.string (strB s2)) := Y0.cell 2
  have Y0c3 : w5.cell? ⟨Y0a, 3, none⟩ = some (.slice A2 m2 c2) := Y0.cell 3
  have Y0z : Y0a < w5.heap.size := Y0.lt
  go_wp2_with fail
  clear Y0c0 Y0c1 Y0c2 Y0c3 Y0z
  have HE : Calls Try.prog 12 #[.agg #[.int .i64 k2, .int .i64 n2, .string (strB s2), .slice A2 m2 c2]] w5 (RetEnc (T2, er2) w5) := by
    have := cEncode_any d hd.out (.mk k2 n2 s2 l2) _ w5 hV2.out hy.out hl2.out
    rw [ht2.out] at this
    exact this
  refine HE.mono ?_
  intro e w6 hh
  obtain ⟨Af, cf, rfl, Bf, hb⟩ := RetEnc.open hh htn2
  clear hh HE
  have X0 := X0.later hb
  have Y0 := Y0.later hb
  have hV := vals_later hV hb
  have hV2 := vals_later hV2 hb
  have Be := by_later Be hb
  have hB := hB.trans (hb.mono hB.size)
  clear hb
  go_wp2
  go_ret
  exact ⟨rfl, hB⟩

set_option maxRecDepth 100000 in
set_option maxHeartbeats 8000000 in
theorem lawD_err2 (k n : Int) (s : Bs) (l : List Val) (A : Option Addr) (m c : Nat) (k2 n2 : Int) (s2 : Bs) (l2 : List Val) (A2 : Option Addr) (m2 c2 : Nat) (d : Nat) (w : World) (hV : Hid (ValsAt w w.heap.size d (.slice A m c) l)) (hV2 : Hid (ValsAt w w.heap.size d (.slice A2 m2 c2) l2)) (hx : Hid (Val.mk k n s l).fits) (hy : Hid (Val.mk k2 n2 s2 l2).fits) (hq : Hid ((fewV (.mk k n s l) && (fewV (.mk k2 n2 s2 l2) && true)) = true)) (hd : Hid (d ≤ 1000)) (hl : Hid ((Val.mk k n s l).enc.length ≤ 79000000)) (hl2 : Hid ((Val.mk k2 n2 s2 l2).enc.length ≤ 79000000)) (T : Bs) (er : Int) (ht : Hid (encT (.mk k n s l) = (T, er))) (tn : Nat) (htn : Hid (T.length = tn)) (T2 : Bs) (er2 : Int) (ht2 : Hid (encT (.mk k2 n2 s2 l2) = (T2, er2))) (tn2 : Nat) (htn2 : Hid (T2.length = tn2)) (h0 : er = 0) (he : er2 ≠ 0) : Calls Try.prog 7 #[.agg #[.int .i64 k, .int .i64 n, .string (strB s), .slice A m c], .agg #[.int .i64 k2, .int .i64 n2, .string (strB s2), .slice A2 m2 c2]] w (fun e w' => e = .returned (.bool true) ∧ Below w.heap.size w w') := by
  have hB := Below.refl w.heap.size w
  go_enter Try.func7, Try.ntmps7
  go_wp2_with fail
  have hst := (((Below.refl w.heap.size w).alloc (by simp <;> omega) (.cells #[.int .i64 k, .int .i64 n, .string (strB s), .slice A m c] 24)).alloc (by simp <;> omega) (.cells #[.int .i64 k2, .int .i64 n2, .string (strB s2), .slice A2 m2 c2] 24))
  have hBo := hB
  have hV := vals_later hV hst
  have hV2 := vals_later hV2 hst
  have hB := hB.trans (hst.mono hB.size)
  have X0 := ((Box.newAt (w := w) (n := w.heap.size) [.int .i64 k, .int .i64 n, .string (strB s), .slice A m c] 24 (by simp)).alloc (.cells #[.int .i64 k2, .int .i64 n2, .string (strB s2), .slice A2 m2 c2] 24))
  have Y0 := (Box.newAt (w := (w.alloc (.cells #[.int .i64 k, .int .i64 n, .string (strB s), .slice A m c] 24))) (n := w.heap.size + 1) [.int .i64 k2, .int .i64 n2, .string (strB s2), .slice A2 m2 c2] 24 (by simp))
  clear hst
  generalize ((w.alloc (.cells #[.int .i64 k, .int .i64 n, .string (strB s), .slice A m c] 24)).alloc (.cells #[.int .i64 k2, .int .i64 n2, .string (strB s2), .slice A2 m2 c2] 24)) = w1 at hB  X0 Y0 hV hV2 ⊢
  generalize w.heap.size + 1 = Y0a at X0 Y0 ⊢
  generalize w.heap.size = X0a at X0 Y0 ⊢
  refine (sane_any _).mono ?_
  rintro e w2 ⟨rfl, hb⟩
  have X0 := X0.later hb
  have Y0 := Y0.later hb
  have hV := vals_later hV hb
  have hV2 := vals_later hV2 hb
  have hB := hB.trans (hb.mono hB.size)
  clear hb
  have X0c0 : w2.cell? ⟨X0a, 0, none⟩ = some (.int .i64 k) := X0.cell 0
  have X0c1 : w2.cell? ⟨X0a, 1, none⟩ = some (.int .i64 n) := X0.cell 1
  have X0c2 : w2.cell? ⟨X0a, 2, none⟩ = some (.string (strB s)) := X0.cell 2
  have X0c3 : w2.cell? ⟨X0a, 3, none⟩ = some (.slice A m c) := X0.cell 3
  have X0z : X0a < w2.heap.size := X0.lt
  have Y0c0 : w2.cell? ⟨Y0a, 0, none⟩ = some (.int .i64 k2) := Y0.cell 0
  have Y0c1 : w2.cell? ⟨Y0a, 1, none⟩ = some (.int .i64 n2) := Y0.cell 1
  have Y0c2 : w2.cell? ⟨Y0a, 2, none⟩ = some (.string (strB s2)) := Y0.cell 2
  have Y0c3 : w2.cell? ⟨Y0a, 3, none⟩ = some (.slice A2 m2 c2) := Y0.cell 3
  have Y0z : Y0a < w2.heap.size := Y0.lt
  go_wp2_with fail
  clear X0c0 X0c1 X0c2 X0c3 X0z Y0c0 Y0c1 Y0c2 Y0c3 Y0z
  have hst := ((Below.refl w2.heap.size w2).alloc (by simp <;> omega) (.cells #[.int .i64 k, .int .i64 n, .string (strB s), .slice A m c, .int .i64 k2, .int .i64 n2, .string (strB s2), .slice A2 m2 c2] 24))
  have hBo := hB
  have X0o := X0
  have X0 := X0.later hst
  have Y0o := Y0
  have Y0 := Y0.later hst
  have hV := vals_later hV hst
  have hV2 := vals_later hV2 hst
  have hB := hB.trans (hst.mono hB.size)
  have F := (Box.newAt (w := w2) (n := w2.heap.size) [.int .i64 k, .int .i64 n, .string (strB s), .slice A m c, .int .i64 k2, .int .i64 n2, .string (strB s2), .slice A2 m2 c2] 24 (by simp))
  clear hst
  generalize (w2.alloc (.cells #[.int .i64 k, .int .i64 n, .string (strB s), .slice A m c, .int .i64 k2, .int .i64 n2, .string (strB s2), .slice A2 m2 c2] 24)) = w3 at hB X0 Y0 F hV hV2 ⊢
  generalize w2.heap.size = Fa at F ⊢
  have HF := few_any _ [.mk k n s l, .mk k2 n2 s2 l2] _ _ (two_at F hV.out hV2.out) ⟨hx.out, hy.out, trivial⟩ true (Lib.hid (by rw [List.all_cons, List.all_cons]; exact hq.out))
  go_wp2_with fail
  refine (HF).mono ?_
  rintro e w4 ⟨rfl, hb⟩
  have X0 := X0.later hb
  have Y0 := Y0.later hb
  have F := F.later hb
  have hV := vals_later hV hb
  have hV2 := vals_later hV2 hb
  have hB := hB.trans (hb.mono hB.size)
  clear hb
  clear HF
  clear F
  have X0c0 : w4.cell? ⟨X0a, 0, none⟩ = some (.int .i64 k) := X0.cell 0
  have X0c1 : w4.cell? ⟨X0a, 1, none⟩ = some (.int .i64 n) := X0.cell 1
  have X0c2 : w4.cell? ⟨X0a, 2, none⟩ = some (.string (strB s)) := X0.cell 2
  have X0c3 : w4.cell? ⟨X0a, 3, none⟩ = some (.slice A m c) := X0.cell 3
  have X0z : X0a < w4.heap.size := X0.lt
  go_wp2_with fail
  clear X0c0 X0c1 X0c2 X0c3 X0z
  have HE : Calls Try.prog 12 #[.agg #[.int .i64 k, .int .i64 n, .string (strB s), .slice A m c]] w4 (RetEnc (T, er) w4) := by
    have := cEncode_any d hd.out (.mk k n s l) _ w4 hV.out hx.out hl.out
    rw [ht.out] at this
    exact this
  refine HE.mono ?_
  intro e w5 hh
  obtain ⟨Ae, ce, rfl, Be, hb⟩ := RetEnc.open hh htn
  clear hh HE
  have X0 := X0.later hb
  have Y0 := Y0.later hb
  have hV := vals_later hV hb
  have hV2 := vals_later hV2 hb
  have hB := hB.trans (hb.mono hB.size)
  clear hb
  have Y0c0 : w5.cell? ⟨Y0a, 0, none⟩ = some (.int .i64 k2) := Y0.cell 0
  have Y0c1 : w5.cell? ⟨Y0a, 1, none⟩ = some (.int .i64 n2) := Y0.cell 1
  have Y0c2 : w5.cell? ⟨Y0a, 2, none⟩ = some (.string (strB s2)) := Y0.cell 2
  have Y0c3 : w5.cell? ⟨Y0a, 3, none⟩ = some (.slice A2 m2 c2) := Y0.cell 3
  have Y0z : Y0a < w5.heap.size := Y0.lt
  go_wp2_with fail
  clear Y0c0 Y0c1 Y0c2 Y0c3 Y0z
  have HE : Calls Try.prog 12 #[.agg #[.int .i64 k2, .int .i64 n2, .string (strB s2), .slice A2 m2 c2]] w5 (RetEnc (T2, er2) w5) := by
    have := cEncode_any d hd.out (.mk k2 n2 s2 l2) _ w5 hV2.out hy.out hl2.out
    rw [ht2.out] at this
    exact this
  refine HE.mono ?_
  intro e w6 hh
  obtain ⟨Af, cf, rfl, Bf, hb⟩ := RetEnc.open hh htn2
  clear hh HE
  have X0 := X0.later hb
  have Y0 := Y0.later hb
  have hV := vals_later hV hb
  have hV2 := vals_later hV2 hb
  have Be := by_later Be hb
  have hB := hB.trans (hb.mono hB.size)
  clear hb
  go_wp2
  go_ret
  exact ⟨rfl, hB⟩

set_option maxRecDepth 100000 in
set_option maxHeartbeats 8000000 in
theorem lawD_eq (k n : Int) (s : Bs) (l : List Val) (A : Option Addr) (m c : Nat) (k2 n2 : Int) (s2 : Bs) (l2 : List Val) (A2 : Option Addr) (m2 c2 : Nat) (d : Nat) (w : World) (hV : Hid (ValsAt w w.heap.size d (.slice A m c) l)) (hV2 : Hid (ValsAt w w.heap.size d (.slice A2 m2 c2) l2)) (hx : Hid (Val.mk k n s l).fits) (hy : Hid (Val.mk k2 n2 s2 l2).fits) (hq : Hid ((fewV (.mk k n s l) && (fewV (.mk k2 n2 s2 l2) && true)) = true)) (hd : Hid (d ≤ 1000)) (hl : Hid ((Val.mk k n s l).enc.length ≤ 79000000)) (hl2 : Hid ((Val.mk k2 n2 s2 l2).enc.length ≤ 79000000)) (T : Bs) (ht : Hid (encT (.mk k n s l) = (T, 0))) (tn : Nat) (htn : Hid (T.length = tn)) (ht2 : Hid (encT (.mk k2 n2 s2 l2) = (T, 0)))  (hs : Hid ((Val.mk k n s l).same (.mk k2 n2 s2 l2) = true)) : Calls Try.prog 7 #[.agg #[.int .i64 k, .int .i64 n, .string (strB s), .slice A m c], .agg #[.int .i64 k2, .int .i64 n2, .string (strB s2), .slice A2 m2 c2]] w (fun e w' => e = .returned (.bool true) ∧ Below w.heap.size w w') := by
  have hB := Below.refl w.heap.size w
  go_enter Try.func7, Try.ntmps7
  go_wp2_with fail
  have hst := (((Below.refl w.heap.size w).alloc (by simp <;> omega) (.cells #[.int .i64 k, .int .i64 n, .string (strB s), .slice A m c] 24)).alloc (by simp <;> omega) (.cells #[.int .i64 k2, .int .i64 n2, .string (strB s2), .slice A2 m2 c2] 24))
  have hBo := hB
  have hV := vals_later hV hst
  have hV2 := vals_later hV2 hst
  have hB := hB.trans (hst.mono hB.size)
  have X0 := ((Box.newAt (w := w) (n := w.heap.size) [.int .i64 k, .int .i64 n, .string (strB s), .slice A m c] 24 (by simp)).alloc (.cells #[.int .i64 k2, .int .i64 n2, .string (strB s2), .slice A2 m2 c2] 24))
  have Y0 := (Box.newAt (w := (w.alloc (.cells #[.int .i64 k, .int .i64 n, .string (strB s), .slice A m c] 24))) (n := w.heap.size + 1) [.int .i64 k2, .int .i64 n2, .string (strB s2), .slice A2 m2 c2] 24 (by simp))
  clear hst
  generalize ((w.alloc (.cells #[.int .i64 k, .int .i64 n, .string (strB s), .slice A m c] 24)).alloc (.cells #[.int .i64 k2, .int .i64 n2, .string (strB s2), .slice A2 m2 c2] 24)) = w1 at hB  X0 Y0 hV hV2 ⊢
  generalize w.heap.size + 1 = Y0a at X0 Y0 ⊢
  generalize w.heap.size = X0a at X0 Y0 ⊢
  refine (sane_any _).mono ?_
  rintro e w2 ⟨rfl, hb⟩
  have X0 := X0.later hb
  have Y0 := Y0.later hb
  have hV := vals_later hV hb
  have hV2 := vals_later hV2 hb
  have hB := hB.trans (hb.mono hB.size)
  clear hb
  have X0c0 : w2.cell? ⟨X0a, 0, none⟩ = some (.int .i64 k) := X0.cell 0
  have X0c1 : w2.cell? ⟨X0a, 1, none⟩ = some (.int .i64 n) := X0.cell 1
  have X0c2 : w2.cell? ⟨X0a, 2, none⟩ = some (.string (strB s)) := X0.cell 2
  have X0c3 : w2.cell? ⟨X0a, 3, none⟩ = some (.slice A m c) := X0.cell 3
  have X0z : X0a < w2.heap.size := X0.lt
  have Y0c0 : w2.cell? ⟨Y0a, 0, none⟩ = some (.int .i64 k2) := Y0.cell 0
  have Y0c1 : w2.cell? ⟨Y0a, 1, none⟩ = some (.int .i64 n2) := Y0.cell 1
  have Y0c2 : w2.cell? ⟨Y0a, 2, none⟩ = some (.string (strB s2)) := Y0.cell 2
  have Y0c3 : w2.cell? ⟨Y0a, 3, none⟩ = some (.slice A2 m2 c2) := Y0.cell 3
  have Y0z : Y0a < w2.heap.size := Y0.lt
  go_wp2_with fail
  clear X0c0 X0c1 X0c2 X0c3 X0z Y0c0 Y0c1 Y0c2 Y0c3 Y0z
  have hst := ((Below.refl w2.heap.size w2).alloc (by simp <;> omega) (.cells #[.int .i64 k, .int .i64 n, .string (strB s), .slice A m c, .int .i64 k2, .int .i64 n2, .string (strB s2), .slice A2 m2 c2] 24))
  have hBo := hB
  have X0o := X0
  have X0 := X0.later hst
  have Y0o := Y0
  have Y0 := Y0.later hst
  have hV := vals_later hV hst
  have hV2 := vals_later hV2 hst
  have hB := hB.trans (hst.mono hB.size)
  have F := (Box.newAt (w := w2) (n := w2.heap.size) [.int .i64 k, .int .i64 n, .string (strB s), .slice A m c, .int .i64 k2, .int .i64 n2, .string (strB s2), .slice A2 m2 c2] 24 (by simp))
  clear hst
  generalize (w2.alloc (.cells #[.int .i64 k, .int .i64 n, .string (strB s), .slice A m c, .int .i64 k2, .int .i64 n2, .string (strB s2), .slice A2 m2 c2] 24)) = w3 at hB X0 Y0 F hV hV2 ⊢
  generalize w2.heap.size = Fa at F ⊢
  have HF := few_any _ [.mk k n s l, .mk k2 n2 s2 l2] _ _ (two_at F hV.out hV2.out) ⟨hx.out, hy.out, trivial⟩ true (Lib.hid (by rw [List.all_cons, List.all_cons]; exact hq.out))
  go_wp2_with fail
  refine (HF).mono ?_
  rintro e w4 ⟨rfl, hb⟩
  have X0 := X0.later hb
  have Y0 := Y0.later hb
  have F := F.later hb
  have hV := vals_later hV hb
  have hV2 := vals_later hV2 hb
  have hB := hB.trans (hb.mono hB.size)
  clear hb
  clear HF
  clear F
  have X0c0 : w4.cell? ⟨X0a, 0, none⟩ = some (.int .i64 k) := X0.cell 0
  have X0c1 : w4.cell? ⟨X0a, 1, none⟩ = some (.int .i64 n) := X0.cell 1
  have X0c2 : w4.cell? ⟨X0a, 2, none⟩ = some (.string (strB s)) := X0.cell 2
  have X0c3 : w4.cell? ⟨X0a, 3, none⟩ = some (.slice A m c) := X0.cell 3
  have X0z : X0a < w4.heap.size := X0.lt
  go_wp2_with fail
  clear X0c0 X0c1 X0c2 X0c3 X0z
  have HE : Calls Try.prog 12 #[.agg #[.int .i64 k, .int .i64 n, .string (strB s), .slice A m c]] w4 (RetEnc (T, 0) w4) := by
    have := cEncode_any d hd.out (.mk k n s l) _ w4 hV.out hx.out hl.out
    rw [ht.out] at this
    exact this
  refine HE.mono ?_
  intro e w5 hh
  obtain ⟨Ae, ce, rfl, Be, hb⟩ := RetEnc.open hh htn
  clear hh HE
  have X0 := X0.later hb
  have Y0 := Y0.later hb
  have hV := vals_later hV hb
  have hV2 := vals_later hV2 hb
  have hB := hB.trans (hb.mono hB.size)
  clear hb
  have Y0c0 : w5.cell? ⟨Y0a, 0, none⟩ = some (.int .i64 k2) := Y0.cell 0
  have Y0c1 : w5.cell? ⟨Y0a, 1, none⟩ = some (.int .i64 n2) := Y0.cell 1
  have Y0c2 : w5.cell? ⟨Y0a, 2, none⟩ = some (.string (strB s2)) := Y0.cell 2
  have Y0c3 : w5.cell? ⟨Y0a, 3, none⟩ = some (.slice A2 m2 c2) := Y0.cell 3
  have Y0z : Y0a < w5.heap.size := Y0.lt
  go_wp2_with fail
  clear Y0c0 Y0c1 Y0c2 Y0c3 Y0z
  have HE : Calls Try.prog 12 #[.agg #[.int .i64 k2, .int .i64 n2, .string (strB s2), .slice A2 m2 c2]] w5 (RetEnc (T, 0) w5) := by
    have := cEncode_any d hd.out (.mk k2 n2 s2 l2) _ w5 hV2.out hy.out hl2.out
    rw [ht2.out] at this
    exact this
  refine HE.mono ?_
  intro e w6 hh
  obtain ⟨Af, cf, rfl, Bf, hb⟩ := RetEnc.open hh htn
  clear hh HE
  have X0 := X0.later hb
  have Y0 := Y0.later hb
  have hV := vals_later hV hb
  have hV2 := vals_later hV2 hb
  have Be := by_later Be hb
  have hB := hB.trans (hb.mono hB.size)
  clear hb
  have X0c0 : w6.cell? ⟨X0a, 0, none⟩ = some (.int .i64 k) := X0.cell 0
  have X0c1 : w6.cell? ⟨X0a, 1, none⟩ = some (.int .i64 n) := X0.cell 1
  have X0c2 : w6.cell? ⟨X0a, 2, none⟩ = some (.string (strB s)) := X0.cell 2
  have X0c3 : w6.cell? ⟨X0a, 3, none⟩ = some (.slice A m c) := X0.cell 3
  have X0z : X0a < w6.heap.size := X0.lt
  have Y0c0 : w6.cell? ⟨Y0a, 0, none⟩ = some (.int .i64 k2) := Y0.cell 0
  have Y0c1 : w6.cell? ⟨Y0a, 1, none⟩ = some (.int .i64 n2) := Y0.cell 1
  have Y0c2 : w6.cell? ⟨Y0a, 2, none⟩ = some (.string (strB s2)) := Y0.cell 2
  have Y0c3 : w6.cell? ⟨Y0a, 3, none⟩ = some (.slice A2 m2 c2) := Y0.cell 3
  have Y0z : Y0a < w6.heap.size := Y0.lt
  go_wp2_with fail
  clear X0c0 X0c1 X0c2 X0c3 X0z Y0c0 Y0c1 Y0c2 Y0c3 Y0z
  have HS : Calls Try.prog 21 #[.agg #[.int .i64 k, .int .i64 n, .string (strB s), .slice A m c], .agg #[.int .i64 k2, .int .i64 n2, .string (strB s2), .slice A2 m2 c2]] w6 fun e w' => e = .returned (.bool true) ∧ Below w6.heap.size w6 w' := by
    have := SameC.all d (.mk k n s l) (.mk k2 n2 s2 l2) _ _ w6 hV.out hV2.out
    rw [hs.out] at this
    exact this
  go_wp2_with fail
  refine (HS).mono ?_
  rintro e w7 ⟨rfl, hb⟩
  have X0 := X0.later hb
  have Y0 := Y0.later hb
  have hV := vals_later hV hb
  have hV2 := vals_later hV2 hb
  have Be := by_later Be hb
  have Bf := by_later Bf hb
  have hB := hB.trans (hb.mono hB.size)
  clear hb
  clear HS
  have v1 := Be.out.str
  have v2 := Bf.out.str
  generalize strB T = st at v1 v2
  go_wp2
  go_ret
  exact ⟨rfl, hB⟩

set_option maxRecDepth 100000 in
set_option maxHeartbeats 8000000 in
theorem lawD_ne (k n : Int) (s : Bs) (l : List Val) (A : Option Addr) (m c : Nat) (k2 n2 : Int) (s2 : Bs) (l2 : List Val) (A2 : Option Addr) (m2 c2 : Nat) (d : Nat) (w : World) (hV : Hid (ValsAt w w.heap.size d (.slice A m c) l)) (hV2 : Hid (ValsAt w w.heap.size d (.slice A2 m2 c2) l2)) (hx : Hid (Val.mk k n s l).fits) (hy : Hid (Val.mk k2 n2 s2 l2).fits) (hq : Hid ((fewV (.mk k n s l) && (fewV (.mk k2 n2 s2 l2) && true)) = true)) (hd : Hid (d ≤ 1000)) (hl : Hid ((Val.mk k n s l).enc.length ≤ 79000000)) (hl2 : Hid ((Val.mk k2 n2 s2 l2).enc.length ≤ 79000000)) (T : Bs) (ht : Hid (encT (.mk k n s l) = (T, 0))) (tn : Nat) (htn : Hid (T.length = tn)) (T2 : Bs) (ht2 : Hid (encT (.mk k2 n2 s2 l2) = (T2, 0))) (tn2 : Nat) (htn2 : Hid (T2.length = tn2)) (hs : Hid ((Val.mk k n s l).same (.mk k2 n2 s2 l2) = false)) (htp : 0 < tn ∧ 0 < tn2) (hm1 : tn ≤ 79000000) (hm2 : tn2 ≤ 79000000) (hne : Hid (T.take (min tn tn2) ≠ T2.take (min tn tn2))) : Calls Try.prog 7 #[.agg #[.int .i64 k, .int .i64 n, .string (strB s), .slice A m c], .agg #[.int .i64 k2, .int .i64 n2, .string (strB s2), .slice A2 m2 c2]] w (fun e w' => e = .returned (.bool true) ∧ Below w.heap.size w w') := by
  have hB := Below.refl w.heap.size w
  go_enter Try.func7, Try.ntmps7
  go_wp2_with fail
  have hst := (((Below.refl w.heap.size w).alloc (by simp <;> omega) (.cells #[.int .i64 k, .int .i64 n, .string (strB s), .slice A m c] 24)).alloc (by simp <;> omega) (.cells #[.int .i64 k2, .int .i64 n2, .string (strB s2), .slice A2 m2 c2] 24))
  have hBo := hB
  have hV := vals_later hV hst
  have hV2 := vals_later hV2 hst
  have hB := hB.trans (hst.mono hB.size)
  have X0 := ((Box.newAt (w := w) (n := w.heap.size) [.int .i64 k, .int .i64 n, .string (strB s), .slice A m c] 24 (by simp)).alloc (.cells #[.int .i64 k2, .int .i64 n2, .string (strB s2), .slice A2 m2 c2] 24))
  have Y0 := (Box.newAt (w := (w.alloc (.cells #[.int .i64 k, .int .i64 n, .string (strB s), .slice A m c] 24))) (n := w.heap.size + 1) [.int .i64 k2, .int .i64 n2, .string (strB s2), .slice A2 m2 c2] 24 (by simp))
  clear hst
  generalize ((w.alloc (.cells #[.int .i64 k, .int .i64 n, .string (strB s), .slice A m c] 24)).alloc (.cells #[.int .i64 k2, .int .i64 n2, .string (strB s2), .slice A2 m2 c2] 24)) = w1 at hB  X0 Y0 hV hV2 ⊢
  generalize w.heap.size + 1 = Y0a at X0 Y0 ⊢
  generalize w.heap.size = X0a at X0 Y0 ⊢
  refine (sane_any _).mono ?_
  rintro e w2 ⟨rfl, hb⟩
  have X0 := X0.later hb
  have Y0 := Y0.later hb
  have hV := vals_later hV hb
  have hV2 := vals_later hV2 hb
  have hB := hB.trans (hb.mono hB.size)
  clear hb
  have X0c0 : w2.cell? ⟨X0a, 0, none⟩ = some (.int .i64 k) := X0.cell 0
  have X0c1 : w2.cell? ⟨X0a, 1, none⟩ = some (.int .i64 n) := X0.cell 1
  have X0c2 : w2.cell? ⟨X0a, 2, none⟩ = some (.string (strB s)) := X0.cell 2
  have X0c3 : w2.cell? ⟨X0a, 3, none⟩ = some (.slice A m c) := X0.cell 3
  have X0z : X0a < w2.heap.size := X0.lt
  have Y0c0 : w2.cell? ⟨Y0a, 0, none⟩ = some (.int .i64 k2) := Y0.cell 0
  have Y0c1 : w2.cell? ⟨Y0a, 1, none⟩ = some (.int .i64 n2) := Y0.cell 1
  have Y0c2 : w2.cell? ⟨Y0a, 2, none⟩ = some (.string (strB s2)) := Y0.cell 2
  have Y0c3 : w2.cell? ⟨Y0a, 3, none⟩ = some (.slice A2 m2 c2) := Y0.cell 3
  have Y0z : Y0a < w2.heap.size := Y0.lt
  go_wp2_with fail
  clear X0c0 X0c1 X0c2 X0c3 X0z Y0c0 Y0c1 Y0c2 Y0c3 Y0z
  have hst := ((Below.refl w2.heap.size w2).alloc (by simp <;> omega) (.cells #[.int .i64 k, .int .i64 n, .string (strB s), .slice A m c, .int .i64 k2, .int .i64 n2, .string (strB s2), .slice A2 m2 c2] 24))
  have hBo := hB
  have X0o := X0
  have X0 := X0.later hst
  have Y0o := Y0
  have Y0 := Y0.later hst
  have hV := vals_later hV hst
  have hV2 := vals_later hV2 hst
  have hB := hB.trans (hst.mono hB.size)
  have F := (Box.newAt (w := w2) (n := w2.heap.size) [.int .i64 k, .int .i64 n, .string (strB s), .slice A m c, .int .i64 k2, .int .i64 n2, .string (strB s2), .slice A2 m2 c2] 24 (by simp))
  clear hst
  generalize (w2.alloc (.cells #[.int .i64 k, .int .i64 n, .string (strB s), .slice A m c, .int .i64 k2, .int .i64 n2, .string (strB s2), .slice A2 m2 c2] 24)) = w3 at hB X0 Y0 F hV hV2 ⊢
  generalize w2.heap.size = Fa at F ⊢
  have HF := few_any _ [.mk k n s l, .mk k2 n2 s2 l2] _ _ (two_at F hV.out hV2.out) ⟨hx.out, hy.out, trivial⟩ true (Lib.hid (by rw [List.all_cons, List.all_cons]; exact hq.out))
  go_wp2_with fail
  refine (HF).mono ?_
  rintro e w4 ⟨rfl, hb⟩
  have X0 := X0.later hb
  have Y0 := Y0.later hb
  have F := F.later hb
  have hV := vals_later hV hb
  have hV2 := vals_later hV2 hb
  have hB := hB.trans (hb.mono hB.size)
  clear hb
  clear HF
  clear F
  have X0c0 : w4.cell? ⟨X0a, 0, none⟩ = some (.int .i64 k) := X0.cell 0
  have X0c1 : w4.cell? ⟨X0a, 1, none⟩ = some (.int .i64 n) := X0.cell 1
  have X0c2 : w4.cell? ⟨X0a, 2, none⟩ = some (.string (strB s)) := X0.cell 2
  have X0c3 : w4.cell? ⟨X0a, 3, none⟩ = some (.slice A m c) := X0.cell 3
  have X0z : X0a < w4.heap.size := X0.lt
  go_wp2_with fail
  clear X0c0 X0c1 X0c2 X0c3 X0z
  have HE : Calls Try.prog 12 #[.agg #[.int .i64 k, .int .i64 n, .string (strB s), .slice A m c]] w4 (RetEnc (T, 0) w4) := by
    have := cEncode_any d hd.out (.mk k n s l) _ w4 hV.out hx.out hl.out
    rw [ht.out] at this
    exact this
  refine HE.mono ?_
  intro e w5 hh
  obtain ⟨Ae, ce, rfl, Be, hb⟩ := RetEnc.open hh htn
  clear hh HE
  have X0 := X0.later hb
  have Y0 := Y0.later hb
  have hV := vals_later hV hb
  have hV2 := vals_later hV2 hb
  have hB := hB.trans (hb.mono hB.size)
  clear hb
  have Y0c0 : w5.cell? ⟨Y0a, 0, none⟩ = some (.int .i64 k2) := Y0.cell 0
  have Y0c1 : w5.cell? ⟨Y0a, 1, none⟩ = some (.int .i64 n2) := Y0.cell 1
  have Y0c2 : w5.cell? ⟨Y0a, 2, none⟩ = some (.string (strB s2)) := Y0.cell 2
  have Y0c3 : w5.cell? ⟨Y0a, 3, none⟩ = some (.slice A2 m2 c2) := Y0.cell 3
  have Y0z : Y0a < w5.heap.size := Y0.lt
  go_wp2_with fail
  clear Y0c0 Y0c1 Y0c2 Y0c3 Y0z
  have HE : Calls Try.prog 12 #[.agg #[.int .i64 k2, .int .i64 n2, .string (strB s2), .slice A2 m2 c2]] w5 (RetEnc (T2, 0) w5) := by
    have := cEncode_any d hd.out (.mk k2 n2 s2 l2) _ w5 hV2.out hy.out hl2.out
    rw [ht2.out] at this
    exact this
  refine HE.mono ?_
  intro e w6 hh
  obtain ⟨Af, cf, rfl, Bf, hb⟩ := RetEnc.open hh htn2
  clear hh HE
  have X0 := X0.later hb
  have Y0 := Y0.later hb
  have hV := vals_later hV hb
  have hV2 := vals_later hV2 hb
  have Be := by_later Be hb
  have hB := hB.trans (hb.mono hB.size)
  clear hb
  have X0c0 : w6.cell? ⟨X0a, 0, none⟩ = some (.int .i64 k) := X0.cell 0
  have X0c1 : w6.cell? ⟨X0a, 1, none⟩ = some (.int .i64 n) := X0.cell 1
  have X0c2 : w6.cell? ⟨X0a, 2, none⟩ = some (.string (strB s)) := X0.cell 2
  have X0c3 : w6.cell? ⟨X0a, 3, none⟩ = some (.slice A m c) := X0.cell 3
  have X0z : X0a < w6.heap.size := X0.lt
  have Y0c0 : w6.cell? ⟨Y0a, 0, none⟩ = some (.int .i64 k2) := Y0.cell 0
  have Y0c1 : w6.cell? ⟨Y0a, 1, none⟩ = some (.int .i64 n2) := Y0.cell 1
  have Y0c2 : w6.cell? ⟨Y0a, 2, none⟩ = some (.string (strB s2)) := Y0.cell 2
  have Y0c3 : w6.cell? ⟨Y0a, 3, none⟩ = some (.slice A2 m2 c2) := Y0.cell 3
  have Y0z : Y0a < w6.heap.size := Y0.lt
  go_wp2_with fail
  clear X0c0 X0c1 X0c2 X0c3 X0z Y0c0 Y0c1 Y0c2 Y0c3 Y0z
  have HS : Calls Try.prog 21 #[.agg #[.int .i64 k, .int .i64 n, .string (strB s), .slice A m c], .agg #[.int .i64 k2, .int .i64 n2, .string (strB s2), .slice A2 m2 c2]] w6 fun e w' => e = .returned (.bool false) ∧ Below w6.heap.size w6 w' := by
    have := SameC.all d (.mk k n s l) (.mk k2 n2 s2 l2) _ _ w6 hV.out hV2.out
    rw [hs.out] at this
    exact this
  go_wp2_with fail
  refine (HS).mono ?_
  rintro e w7 ⟨rfl, hb⟩
  have X0 := X0.later hb
  have Y0 := Y0.later hb
  have hV := vals_later hV hb
  have hV2 := vals_later hV2 hb
  have Be := by_later Be hb
  have Bf := by_later Bf hb
  have hB := hB.trans (hb.mono hB.size)
  clear hb
  clear HS
  go_wp2
  obtain ⟨be, oe, rfl, he1, he2, -, -⟩ := Be.out.row htp.1
  obtain ⟨bf, of, rfl, hf1, hf2, -, -⟩ := Bf.out.row htp.2
  have v1 := ((Be.out.take (m := min tn tn2) (by rw [htn.out]; omega)).keep (Keeps.of (Below.refl w7.heap.size w7).drew)).str
  have v2 := ((Bf.out.take (m := min tn tn2) (by rw [htn2.out]; omega)).keep (Keeps.of (Below.refl w7.heap.size w7).drew)).str
  have hst := strB_ne' hne.out
  have hmn : min (tn : Int) (tn2 : Int) = ((min tn tn2 : Nat) : Int) := by omega
  rw [hmn]
  obtain ⟨mn, hm⟩ : ∃ mn, min tn tn2 = mn := ⟨_, rfl⟩
  have q1 : (mn : Int) ≤ (ce : Int) := by omega
  have q2 : (mn : Int) ≤ (cf : Int) := by omega
  have q3 : ¬ ce = 0 := by omega
  have q4 : ¬ cf = 0 := by omega
  rw [hm] at v1 v2 hst ⊢
  clear hmn hne hm htp
  generalize strB (T.take mn) = st at v1 hst
  generalize strB (T2.take mn) = st2 at v2 hst
  go_region
  go_wp2
  go_ret
  exact ⟨rfl, hB.drew⟩

theorem law_CodecDifferent (x y : Val) (L M : Value) (d d2 : Nat) (w : World) (hV : ValsAt w w.heap.size d L x.elems) (hV2 : ValsAt w w.heap.size d2 M y.elems) (hx : x.fits) (hy : y.fits) :
    Calls Try.prog 7 #[.agg #[.int .i64 x.kind, .int .i64 x.num, .string (strB x.str), L], .agg #[.int .i64 y.kind, .int .i64 y.num, .string (strB y.str), M]] w (fun e w' => e = .returned (.bool true) ∧ Below w.heap.size w w') := by
  obtain ⟨A, c, rfl, _⟩ := hV.form
  obtain ⟨A2, c2, rfl, _⟩ := hV2.form
  obtain ⟨k, n, s, l⟩ := x
  obtain ⟨k2, n2, s2, l2⟩ := y
  rcases hq : (fewV (.mk k n s l) && (fewV (.mk k2 n2 s2 l2) && true)) with _ | _
  · exact lawD_no k n s l A _ c k2 n2 s2 l2 A2 _ c2 _ w (hV.fit (Nat.le_trans hV.nest (Nat.le_max_left d d2))) (hV2.fit (Nat.le_trans hV2.nest (Nat.le_max_right d d2))) hx hy hq
  · have hq' := hq
    simp only [Bool.and_eq_true, Bool.and_true] at hq'
    obtain ⟨h1, h2⟩ := few_nest hx hq'.1
    obtain ⟨h3, h4⟩ := few_nest hy hq'.2
    have h2' : (Val.mk k n s l).enc.length ≤ 79000000 := by omega
    have h4' : (Val.mk k2 n2 s2 l2).enc.length ≤ 79000000 := by omega
    have f1 := hV.fit h1
    have f2 := hV2.fit h3
    by_cases c1 : chkT (.mk k n s l) = 0
    · by_cases c2 : chkT (.mk k2 n2 s2 l2) = 0
      · have o1 := (chk_zero c1).1
        have o2 := (chk_zero c2).1
        rcases hs : (Val.mk k n s l).same (.mk k2 n2 s2 l2) with _ | _
        · exact lawD_ne k n s l A _ c k2 n2 s2 l2 A2 _ _ 20 w f1 f2 hx hy hq (Lib.hid (by decide)) (Lib.hid h2') (Lib.hid h4') _ (Lib.hid (enc_ok c1)) _ rfl _ (Lib.hid (enc_ok c2)) _ rfl (Lib.hid hs) ⟨enc_pos _, enc_pos _⟩ h2' h4' (Lib.hid (pre_ne o1 o2 hx hy (same_false hs)))
        · have e := (Val.same_iff _ _).1 hs
          exact lawD_eq k n s l A _ c k2 n2 s2 l2 A2 _ _ 20 w f1 f2 hx hy hq (Lib.hid (by decide)) (Lib.hid h2') (Lib.hid h4') _ (Lib.hid (enc_ok c1)) _ rfl (Lib.hid (by rw [← e]; exact enc_ok c1)) (Lib.hid hs)
      · exact lawD_err2 k n s l A _ c k2 n2 s2 l2 A2 _ _ 20 w f1 f2 hx hy hq (Lib.hid (by decide)) (Lib.hid h2') (Lib.hid h4') _ _ (Lib.hid (enc_ok c1)) _ rfl _ _ (Lib.hid (enc_err c2)) _ rfl rfl c2
    · exact lawD_err1 k n s l A _ c k2 n2 s2 l2 A2 _ _ 20 w f1 f2 hx hy hq (Lib.hid (by decide)) (Lib.hid h2') (Lib.hid h4') _ _ (Lib.hid (enc_err c1)) _ rfl (encT (.mk k2 n2 s2 l2)).1 (encT (.mk k2 n2 s2 l2)).2 (Lib.hid rfl) _ rfl c1

end Go.Proofs.Ytcokkloaljaanaa
