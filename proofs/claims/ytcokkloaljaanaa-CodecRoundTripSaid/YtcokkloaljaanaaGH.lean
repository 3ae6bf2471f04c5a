/-
  The law CodecRoundTrip. (Printed by gen_gh.py.)
-/
import Derived.Test.YtcokkloaljaanaaGE
namespace Go.Proofs.Ytcokkloaljaanaa
open Go.RowKit
attribute [local go_sem ↓ high] app_named

theorem RetDec.open2 {k n : Int} {s : Bs} {l : List Val} {m : Nat} {er : Int} {w : World} {e : Ending} {w' : World} (h : RetDec (.mk k n s l, er) w e w') (hm : Hid (l.length = m)) : ∃ A c, e = .returned (.tuple #[.agg #[.int .i64 k, .int .i64 n, .string (strB s), .slice A m c], .int .i64 er]) ∧ Hid (ValsAt w' w'.heap.size 20 (.slice A m c) l) ∧ Below w.heap.size w w' := by
  obtain ⟨A, c, he, hD, hb⟩ := RetDec.open h
  have hD2 := hD.vals
  have e1 : (Val.mk k n s l).elems.length = m := hm.out
  rw [e1] at he hD2
  exact ⟨A, c, he, Lib.hid (hD2.fit (Nat.le_trans hD2.nest (by decide))), hb⟩

set_option maxRecDepth 100000 in
set_option maxHeartbeats 8000000 in
theorem lawR_no (k n : Int) (s : Bs) (l : List Val) (A : Option Addr) (m c d : Nat) (w : World) (hV : Hid (ValsAt w w.heap.size d (.slice A m c) l)) (hx : Hid (Val.mk k n s l).fits) (R : Bs) (Ar : Option Addr) (rn cr : Nat) (hR : Hid (BsAt w Any (.slice Ar rn cr) R)) (hq : Hid (fewV (.mk k n s l) = false)) : Calls Try.prog 6 #[.agg #[.int .i64 k, .int .i64 n, .string (strB s), .slice A m c], .slice Ar rn cr] w (fun e w' => e = .returned (.bool true) ∧ Below w.heap.size w w') := by
  have hB := Below.refl w.heap.size w
  go_enter Try.func6, Try.ntmps6
  go_wp2_with fail
  have hst := ((Below.refl w.heap.size w).alloc (by simp <;> omega) (.cells #[.int .i64 k, .int .i64 n, .string (strB s), .slice A m c] 24))
  have hBo := hB
  have hV := vals_later hV hst
  have hR := by_later hR hst
  have hB := hB.trans (hst.mono hB.size)
  have X0 := (Box.newAt (w := w) (n := w.heap.size) [.int .i64 k, .int .i64 n, .string (strB s), .slice A m c] 24 (by simp))
  clear hst
  generalize (w.alloc (.cells #[.int .i64 k, .int .i64 n, .string (strB s), .slice A m c] 24)) = w1 at hB  X0 hV hR ⊢
  generalize w.heap.size = X0a at X0 ⊢
  refine (sane_any _).mono ?_
  rintro e w2 ⟨rfl, hb⟩
  have X0 := X0.later hb
  have hV := vals_later hV hb
  have hR := by_later hR hb
  have hB := hB.trans (hb.mono hB.size)
  clear hb
  have X0c0 : w2.cell? ⟨X0a, 0, none⟩ = some (.int .i64 k) := X0.cell 0
  have X0c1 : w2.cell? ⟨X0a, 1, none⟩ = some (.int .i64 n) := X0.cell 1
  have X0c2 : w2.cell? ⟨X0a, 2, none⟩ = some (.string (strB s)) := X0.cell 2
  have X0c3 : w2.cell? ⟨X0a, 3, none⟩ = some (.slice A m c) := X0.cell 3
  have X0z : X0a < w2.heap.size := X0.lt
  go_wp2_with fail
  clear X0c0 X0c1 X0c2 X0c3 X0z
  have hst := ((Below.refl w2.heap.size w2).alloc (by simp <;> omega) (.cells #[.int .i64 k, .int .i64 n, .string (strB s), .slice A m c] 24))
  have hBo := hB
  have X0o := X0
  have X0 := X0.later hst
  have hV := vals_later hV hst
  have hR := by_later hR hst
  have hB := hB.trans (hst.mono hB.size)
  have F := (Box.newAt (w := w2) (n := w2.heap.size) [.int .i64 k, .int .i64 n, .string (strB s), .slice A m c] 24 (by simp))
  clear hst
  generalize (w2.alloc (.cells #[.int .i64 k, .int .i64 n, .string (strB s), .slice A m c] 24)) = w3 at hB X0 F hV hR ⊢
  generalize w2.heap.size = Fa at F ⊢
  have HF := few_any _ [.mk k n s l] _ _ (one_at F hV.out) ⟨hx.out, trivial⟩ false (Lib.hid (by rw [List.all_cons, hq.out]; rfl))
  go_wp2_with fail
  refine (HF).mono ?_
  rintro e w4 ⟨rfl, hb⟩
  have X0 := X0.later hb
  have F := F.later hb
  have hV := vals_later hV hb
  have hR := by_later hR hb
  have hB := hB.trans (hb.mono hB.size)
  clear hb
  clear HF
  clear F
  go_wp2
  go_ret
  exact ⟨rfl, hB⟩

set_option maxRecDepth 100000 in
set_option maxHeartbeats 8000000 in
theorem lawR_long (k n : Int) (s : Bs) (l : List Val) (A : Option Addr) (m c d : Nat) (w : World) (hV : Hid (ValsAt w w.heap.size d (.slice A m c) l)) (hx : Hid (Val.mk k n s l).fits) (R : Bs) (Ar : Option Addr) (rn cr : Nat) (hR : Hid (BsAt w Any (.slice Ar rn cr) R)) (hq : Hid (fewV (.mk k n s l) = true)) (hl : 2000 < rn) : Calls Try.prog 6 #[.agg #[.int .i64 k, .int .i64 n, .string (strB s), .slice A m c], .slice Ar rn cr] w (fun e w' => e = .returned (.bool true) ∧ Below w.heap.size w w') := by
  have hB := Below.refl w.heap.size w
  go_enter Try.func6, Try.ntmps6
  go_wp2_with fail
  have hst := ((Below.refl w.heap.size w).alloc (by simp <;> omega) (.cells #[.int .i64 k, .int .i64 n, .string (strB s), .slice A m c] 24))
  have hBo := hB
  have hV := vals_later hV hst
  have hR := by_later hR hst
  have hB := hB.trans (hst.mono hB.size)
  have X0 := (Box.newAt (w := w) (n := w.heap.size) [.int .i64 k, .int .i64 n, .string (strB s), .slice A m c] 24 (by simp))
  clear hst
  generalize (w.alloc (.cells #[.int .i64 k, .int .i64 n, .string (strB s), .slice A m c] 24)) = w1 at hB  X0 hV hR ⊢
  generalize w.heap.size = X0a at X0 ⊢
  refine (sane_any _).mono ?_
  rintro e w2 ⟨rfl, hb⟩
  have X0 := X0.later hb
  have hV := vals_later hV hb
  have hR := by_later hR hb
  have hB := hB.trans (hb.mono hB.size)
  clear hb
  have X0c0 : w2.cell? ⟨X0a, 0, none⟩ = some (.int .i64 k) := X0.cell 0
  have X0c1 : w2.cell? ⟨X0a, 1, none⟩ = some (.int .i64 n) := X0.cell 1
  have X0c2 : w2.cell? ⟨X0a, 2, none⟩ = some (.string (strB s)) := X0.cell 2
  have X0c3 : w2.cell? ⟨X0a, 3, none⟩ = some (.slice A m c) := X0.cell 3
  have X0z : X0a < w2.heap.size := X0.lt
  go_wp2_with fail
  clear X0c0 X0c1 X0c2 X0c3 X0z
  have hst := ((Below.refl w2.heap.size w2).alloc (by simp <;> omega) (.cells #[.int .i64 k, .int .i64 n, .string (strB s), .slice A m c] 24))
  have hBo := hB
  have X0o := X0
  have X0 := X0.later hst
  have hV := vals_later hV hst
  have hR := by_later hR hst
  have hB := hB.trans (hst.mono hB.size)
  have F := (Box.newAt (w := w2) (n := w2.heap.size) [.int .i64 k, .int .i64 n, .string (strB s), .slice A m c] 24 (by simp))
  clear hst
  generalize (w2.alloc (.cells #[.int .i64 k, .int .i64 n, .string (strB s), .slice A m c] 24)) = w3 at hB X0 F hV hR ⊢
  generalize w2.heap.size = Fa at F ⊢
  have HF := few_any _ [.mk k n s l] _ _ (one_at F hV.out) ⟨hx.out, trivial⟩ true (Lib.hid (by rw [List.all_cons, hq.out]; rfl))
  go_wp2_with fail
  refine (HF).mono ?_
  rintro e w4 ⟨rfl, hb⟩
  have X0 := X0.later hb
  have F := F.later hb
  have hV := vals_later hV hb
  have hR := by_later hR hb
  have hB := hB.trans (hb.mono hB.size)
  clear hb
  clear HF
  clear F
  go_wp2
  go_ret
  exact ⟨rfl, hB⟩

set_option maxRecDepth 100000 in
set_option maxHeartbeats 8000000 in
theorem lawR_tt (k n : Int) (s : Bs) (l : List Val) (A : Option Addr) (m c d : Nat) (w : World) (hV : Hid (ValsAt w w.heap.size d (.slice A m c) l)) (hx : Hid (Val.mk k n s l).fits) (R : Bs) (Ar : Option Addr) (rn cr : Nat) (hR : Hid (BsAt w Any (.slice Ar rn cr) R)) (hd : Hid (d = 20)) (hq : Hid (fewV (.mk k n s l) = true)) (hrn : rn ≤ 2000) (hRn : Hid (R.length = rn)) (hm : Hid (l.length = m)) (hl : Hid ((Val.mk k n s l).enc.length ≤ 79000000)) (T : Bs) (ht : Hid (encT (.mk k n s l) = (T, 0))) (tn : Nat) (htn : Hid (T.length = tn)) (htl : Hid (tn ≤ 79000000)) (hch : Hid (chkT (.mk k n s l) = 0)) (hdx : Hid (decT T = (.mk k n s l, 0))) (k4 n4 : Int) (s4 : Bs) (l4 : List Val) (m4 : Nat) (hdr : Hid (decT R = (.mk k4 n4 s4 l4, 0))) (hm4 : Hid (l4.length = m4)) (hy : Hid (Val.mk k4 n4 s4 l4).fits) (hyl : Hid ((Val.mk k4 n4 s4 l4).enc.length ≤ 79000000)) (hyt : Hid (encT (.mk k4 n4 s4 l4) = (R, 0))) (hyc : Hid (chkT (.mk k4 n4 s4 l4) = 0)) : Calls Try.prog 6 #[.agg #[.int .i64 k, .int .i64 n, .string (strB s), .slice A m c], .slice Ar rn cr] w (fun e w' => e = .returned (.bool true) ∧ Below w.heap.size w w') := by
  have hB := Below.refl w.heap.size w
  go_enter Try.func6, Try.ntmps6
  obtain rfl := hd.out
  clear hd
  go_wp2_with fail
  have hst := ((Below.refl w.heap.size w).alloc (by simp <;> omega) (.cells #[.int .i64 k, .int .i64 n, .string (strB s), .slice A m c] 24))
  have hBo := hB
  have hV := vals_later hV hst
  have hR := by_later hR hst
  have hB := hB.trans (hst.mono hB.size)
  have X0 := (Box.newAt (w := w) (n := w.heap.size) [.int .i64 k, .int .i64 n, .string (strB s), .slice A m c] 24 (by simp))
  clear hst
  generalize (w.alloc (.cells #[.int .i64 k, .int .i64 n, .string (strB s), .slice A m c] 24)) = w1 at hB  X0 hV hR ⊢
  generalize w.heap.size = X0a at X0 ⊢
  refine (sane_any _).mono ?_
  rintro e w2 ⟨rfl, hb⟩
  have X0 := X0.later hb
  have hV := vals_later hV hb
  have hR := by_later hR hb
  have hB := hB.trans (hb.mono hB.size)
  clear hb
  have X0c0 : w2.cell? ⟨X0a, 0, none⟩ = some (.int .i64 k) := X0.cell 0
  have X0c1 : w2.cell? ⟨X0a, 1, none⟩ = some (.int .i64 n) := X0.cell 1
  have X0c2 : w2.cell? ⟨X0a, 2, none⟩ = some (.string (strB s)) := X0.cell 2
  have X0c3 : w2.cell? ⟨X0a, 3, none⟩ = some (.slice A m c) := X0.cell 3
  have X0z : X0a < w2.heap.size := X0.lt
  go_wp2_with fail
  clear X0c0 X0c1 X0c2 X0c3 X0z
  have hst := ((Below.refl w2.heap.size w2).alloc (by simp <;> omega) (.cells #[.int .i64 k, .int .i64 n, .string (strB s), .slice A m c] 24))
  have hBo := hB
  have X0o := X0
  have X0 := X0.later hst
  have hV := vals_later hV hst
  have hR := by_later hR hst
  have hB := hB.trans (hst.mono hB.size)
  have F := (Box.newAt (w := w2) (n := w2.heap.size) [.int .i64 k, .int .i64 n, .string (strB s), .slice A m c] 24 (by simp))
  clear hst
  generalize (w2.alloc (.cells #[.int .i64 k, .int .i64 n, .string (strB s), .slice A m c] 24)) = w3 at hB X0 F hV hR ⊢
  generalize w2.heap.size = Fa at F ⊢
  have HF := few_any _ [.mk k n s l] _ _ (one_at F hV.out) ⟨hx.out, trivial⟩ true (Lib.hid (by rw [List.all_cons, hq.out]; rfl))
  go_wp2_with fail
  refine (HF).mono ?_
  rintro e w4 ⟨rfl, hb⟩
  have X0 := X0.later hb
  have F := F.later hb
  have hV := vals_later hV hb
  have hR := by_later hR hb
  have hB := hB.trans (hb.mono hB.size)
  clear hb
  clear HF
  clear F
  have X0c0 : w4.cell? ⟨X0a, 0, none⟩ = some (.int .i64 k) := X0.cell 0
  have X0c1 : w4.cell? ⟨X0a, 1, none⟩ = some (.int .i64 n) := X0.cell 1
  have X0c2 : w4.cell? ⟨X0a, 2, none⟩ = some (.string (strB s)) := X0.cell 2
  have X0c3 : w4.cell? ⟨X0a, 3, none⟩ = some (.slice A m c) := X0.cell 3
  have X0z : X0a < w4.heap.size := X0.lt
  go_wp2_with fail
  clear X0c0 X0c1 X0c2 X0c3 X0z
  have HE : Calls Try.prog 12 #[.agg #[.int .i64 k, .int .i64 n, .string (strB s), .slice A m c]] w4 (RetEnc (T, 0) w4) := by
    have := cEncode_any 20 (by decide) (.mk k n s l) _ w4 hV.out hx.out hl.out
    rw [ht.out] at this
    exact this
  refine HE.mono ?_
  intro e w5 hh
  obtain ⟨Ae, ce, rfl, Be, hb⟩ := RetEnc.open hh htn
  clear hh HE
  have X0 := X0.later hb
  have hV := vals_later hV hb
  have hR := by_later hR hb
  have hB := hB.trans (hb.mono hB.size)
  clear hb
  have X0c0 : w5.cell? ⟨X0a, 0, none⟩ = some (.int .i64 k) := X0.cell 0
  have X0c1 : w5.cell? ⟨X0a, 1, none⟩ = some (.int .i64 n) := X0.cell 1
  have X0c2 : w5.cell? ⟨X0a, 2, none⟩ = some (.string (strB s)) := X0.cell 2
  have X0c3 : w5.cell? ⟨X0a, 3, none⟩ = some (.slice A m c) := X0.cell 3
  have X0z : X0a < w5.heap.size := X0.lt
  go_wp2_with fail
  clear X0c0 X0c1 X0c2 X0c3 X0z
  have HC : Calls Try.prog 16 #[.agg #[.int .i64 k, .int .i64 n, .string (strB s), .slice A m c]] w5 fun e w' => e = .returned (.int .i64 0) ∧ Below w5.heap.size w5 w' := by
    have := cCheck_any 20 (by decide) (.mk k n s l) _ w5 hV.out
    rw [hch.out] at this
    exact this
  go_wp2_with fail
  refine (HC).mono ?_
  rintro e w6 ⟨rfl, hb⟩
  have X0 := X0.later hb
  have hV := vals_later hV hb
  have hR := by_later hR hb
  have Be := by_later Be hb
  have hB := hB.trans (hb.mono hB.size)
  clear hb
  clear HC
  go_wp2_with fail
  have HD : Calls Try.prog 18 #[.slice Ae tn ce] w6 (RetDec (.mk k n s l, 0) w6) := by
    have := cDecode_any T _ w6 (by_lt Be) (by rw [htn.out]; exact Nat.le_trans htl.out (by decide))
    rw [hdx.out] at this
    exact this
  refine HD.mono ?_
  intro e w7 hh
  obtain ⟨Ax, cx, rfl, hVx, hb⟩ := RetDec.open2 hh hm
  clear hh HD
  have X0 := X0.later hb
  have hV := vals_later hV hb
  have hR := by_later hR hb
  have Be := by_later Be hb
  have hB := hB.trans (hb.mono hB.size)
  clear hb
  have X0c0 : w7.cell? ⟨X0a, 0, none⟩ = some (.int .i64 k) := X0.cell 0
  have X0c1 : w7.cell? ⟨X0a, 1, none⟩ = some (.int .i64 n) := X0.cell 1
  have X0c2 : w7.cell? ⟨X0a, 2, none⟩ = some (.string (strB s)) := X0.cell 2
  have X0c3 : w7.cell? ⟨X0a, 3, none⟩ = some (.slice A m c) := X0.cell 3
  have X0z : X0a < w7.heap.size := X0.lt
  go_wp2_with fail
  clear X0c0 X0c1 X0c2 X0c3 X0z
  have hst := ((Below.refl w7.heap.size w7).alloc (by simp <;> omega) (.cells #[.int .i64 k, .int .i64 n, .string (strB s), .slice Ax m cx] 24))
  have hBo := hB
  have X0o := X0
  have X0 := X0.later hst
  have hV := vals_later hV hst
  have hR := by_later hR hst
  have Be := by_later Be hst
  have hVx := vals_later hVx hst
  have hB := hB.trans (hst.mono hB.size)
  have D := (Box.newAt (w := w7) (n := w7.heap.size) [.int .i64 k, .int .i64 n, .string (strB s), .slice Ax m cx] 24 (by simp))
  clear hst
  generalize (w7.alloc (.cells #[.int .i64 k, .int .i64 n, .string (strB s), .slice Ax m cx] 24)) = w8 at hB X0 D hV hR Be hVx ⊢
  generalize w7.heap.size = Da at D ⊢
  have X0c0 : w8.cell? ⟨X0a, 0, none⟩ = some (.int .i64 k) := X0.cell 0
  have X0c1 : w8.cell? ⟨X0a, 1, none⟩ = some (.int .i64 n) := X0.cell 1
  have X0c2 : w8.cell? ⟨X0a, 2, none⟩ = some (.string (strB s)) := X0.cell 2
  have X0c3 : w8.cell? ⟨X0a, 3, none⟩ = some (.slice A m c) := X0.cell 3
  have X0z : X0a < w8.heap.size := X0.lt
  have Dc0 : w8.cell? ⟨Da, 0, none⟩ = some (.int .i64 k) := D.cell 0
  have Dc1 : w8.cell? ⟨Da, 1, none⟩ = some (.int .i64 n) := D.cell 1
  have Dc2 : w8.cell? ⟨Da, 2, none⟩ = some (.string (strB s)) := D.cell 2
  have Dc3 : w8.cell? ⟨Da, 3, none⟩ = some (.slice Ax m cx) := D.cell 3
  have Dz : Da < w8.heap.size := D.lt
  go_wp2_with fail
  clear X0c0 X0c1 X0c2 X0c3 X0z Dc0 Dc1 Dc2 Dc3 Dz
  have HS : Calls Try.prog 21 #[.agg #[.int .i64 k, .int .i64 n, .string (strB s), .slice A m c], .agg #[.int .i64 k, .int .i64 n, .string (strB s), .slice Ax m cx]] w8 fun e w' => e = .returned (.bool true) ∧ Below w8.heap.size w8 w' := by
    have := SameC.all 20 (.mk k n s l) (.mk k n s l) _ _ w8 (hV.out) (hVx.out)
    rw [Val.same_refl] at this
    exact this
  go_wp2_with fail
  refine (HS).mono ?_
  rintro e w9 ⟨rfl, hb⟩
  have X0 := X0.later hb
  have D := D.later hb
  have hV := vals_later hV hb
  have hR := by_later hR hb
  have Be := by_later Be hb
  have hVx := vals_later hVx hb
  have hB := hB.trans (hb.mono hB.size)
  clear hb
  clear HS
  have X0c0 : w9.cell? ⟨X0a, 0, none⟩ = some (.int .i64 k) := X0.cell 0
  have X0c1 : w9.cell? ⟨X0a, 1, none⟩ = some (.int .i64 n) := X0.cell 1
  have X0c2 : w9.cell? ⟨X0a, 2, none⟩ = some (.string (strB s)) := X0.cell 2
  have X0c3 : w9.cell? ⟨X0a, 3, none⟩ = some (.slice A m c) := X0.cell 3
  have X0z : X0a < w9.heap.size := X0.lt
  have Dc0 : w9.cell? ⟨Da, 0, none⟩ = some (.int .i64 k) := D.cell 0
  have Dc1 : w9.cell? ⟨Da, 1, none⟩ = some (.int .i64 n) := D.cell 1
  have Dc2 : w9.cell? ⟨Da, 2, none⟩ = some (.string (strB s)) := D.cell 2
  have Dc3 : w9.cell? ⟨Da, 3, none⟩ = some (.slice Ax m cx) := D.cell 3
  have Dz : Da < w9.heap.size := D.lt
  go_wp2_with fail
  clear X0c0 X0c1 X0c2 X0c3 X0z Dc0 Dc1 Dc2 Dc3 Dz
  have HS : Calls Try.prog 20 #[.agg #[.int .i64 k, .int .i64 n, .string (strB s), .slice A m c], .agg #[.int .i64 k, .int .i64 n, .string (strB s), .slice Ax m cx]] w9 fun e w' => e = .returned (.bool true) ∧ Below w9.heap.size w9 w' := by
    have := SameR.all 20 (.mk k n s l) (.mk k n s l) _ _ w9 (hV.out) (hVx.out)
    rw [Val.same_refl] at this
    exact this
  go_wp2_with fail
  refine (HS).mono ?_
  rintro e w10 ⟨rfl, hb⟩
  have X0 := X0.later hb
  have D := D.later hb
  have hV := vals_later hV hb
  have hR := by_later hR hb
  have Be := by_later Be hb
  have hVx := vals_later hVx hb
  have hB := hB.trans (hb.mono hB.size)
  clear hb
  clear HS
  clear D
  go_wp2_with fail
  have HD : Calls Try.prog 18 #[.slice Ar rn cr] w10 (RetDec (.mk k4 n4 s4 l4, 0) w10) := by
    have := cDecode_any R _ w10 (by_lt hR) (by rw [hRn.out]; omega)
    rw [hdr.out] at this
    exact this
  refine HD.mono ?_
  intro e w11 hh
  obtain ⟨Ay, cy, rfl, hVy, hb⟩ := RetDec.open2 hh hm4
  clear hh HD
  have X0 := X0.later hb
  have hV := vals_later hV hb
  have hR := by_later hR hb
  have Be := by_later Be hb
  have hVx := vals_later hVx hb
  have hB := hB.trans (hb.mono hB.size)
  clear hb
  go_wp2_with fail
  have hst := ((Below.refl w11.heap.size w11).alloc (by simp <;> omega) (.cells #[.int .i64 k4, .int .i64 n4, .string (strB s4), .slice Ay m4 cy] 24))
  have hBo := hB
  have X0o := X0
  have X0 := X0.later hst
  have hV := vals_later hV hst
  have hR := by_later hR hst
  have Be := by_later Be hst
  have hVx := vals_later hVx hst
  have hVy := vals_later hVy hst
  have hB := hB.trans (hst.mono hB.size)
  have E := (Box.newAt (w := w11) (n := w11.heap.size) [.int .i64 k4, .int .i64 n4, .string (strB s4), .slice Ay m4 cy] 24 (by simp))
  clear hst
  generalize (w11.alloc (.cells #[.int .i64 k4, .int .i64 n4, .string (strB s4), .slice Ay m4 cy] 24)) = w12 at hB X0 E hV hR Be hVx hVy ⊢
  generalize w11.heap.size = Ea at E ⊢
  have Ec0 : w12.cell? ⟨Ea, 0, none⟩ = some (.int .i64 k4) := E.cell 0
  have Ec1 : w12.cell? ⟨Ea, 1, none⟩ = some (.int .i64 n4) := E.cell 1
  have Ec2 : w12.cell? ⟨Ea, 2, none⟩ = some (.string (strB s4)) := E.cell 2
  have Ec3 : w12.cell? ⟨Ea, 3, none⟩ = some (.slice Ay m4 cy) := E.cell 3
  have Ez : Ea < w12.heap.size := E.lt
  go_wp2_with fail
  clear Ec0 Ec1 Ec2 Ec3 Ez
  have HE : Calls Try.prog 12 #[.agg #[.int .i64 k4, .int .i64 n4, .string (strB s4), .slice Ay m4 cy]] w12 (RetEnc (R, 0) w12) := by
    have := cEncode_any 20 (by decide) (.mk k4 n4 s4 l4) _ w12 hVy.out hy.out hyl.out
    rw [hyt.out] at this
    exact this
  refine HE.mono ?_
  intro e w13 hh
  obtain ⟨Af, cf, rfl, Bf, hb⟩ := RetEnc.open hh hRn
  clear hh HE
  have X0 := X0.later hb
  have E := E.later hb
  have hV := vals_later hV hb
  have hR := by_later hR hb
  have Be := by_later Be hb
  have hVx := vals_later hVx hb
  have hVy := vals_later hVy hb
  have hB := hB.trans (hb.mono hB.size)
  clear hb
  have v1 := Bf.out.str
  have v2 := hR.out.str
  generalize strB R = st at v1 v2
  have Ec0 : w13.cell? ⟨Ea, 0, none⟩ = some (.int .i64 k4) := E.cell 0
  have Ec1 : w13.cell? ⟨Ea, 1, none⟩ = some (.int .i64 n4) := E.cell 1
  have Ec2 : w13.cell? ⟨Ea, 2, none⟩ = some (.string (strB s4)) := E.cell 2
  have Ec3 : w13.cell? ⟨Ea, 3, none⟩ = some (.slice Ay m4 cy) := E.cell 3
  have Ez : Ea < w13.heap.size := E.lt
  go_wp2_with fail
  clear Ec0 Ec1 Ec2 Ec3 Ez
  have HC : Calls Try.prog 16 #[.agg #[.int .i64 k4, .int .i64 n4, .string (strB s4), .slice Ay m4 cy]] w13 fun e w' => e = .returned (.int .i64 0) ∧ Below w13.heap.size w13 w' := by
    have := cCheck_any 20 (by decide) (.mk k4 n4 s4 l4) _ w13 hVy.out
    rw [hyc.out] at this
    exact this
  go_wp2_with fail
  refine (HC).mono ?_
  rintro e w14 ⟨rfl, hb⟩
  have X0 := X0.later hb
  have E := E.later hb
  have hV := vals_later hV hb
  have hR := by_later hR hb
  have Be := by_later Be hb
  have hVx := vals_later hVx hb
  have hVy := vals_later hVy hb
  have Bf := by_later Bf hb
  have hB := hB.trans (hb.mono hB.size)
  clear hb
  clear HC
  go_wp2
  go_ret
  exact ⟨rfl, hB⟩

set_option maxRecDepth 100000 in
set_option maxHeartbeats 8000000 in
theorem lawR_tf (k n : Int) (s : Bs) (l : List Val) (A : Option Addr) (m c d : Nat) (w : World) (hV : Hid (ValsAt w w.heap.size d (.slice A m c) l)) (hx : Hid (Val.mk k n s l).fits) (R : Bs) (Ar : Option Addr) (rn cr : Nat) (hR : Hid (BsAt w Any (.slice Ar rn cr) R)) (hd : Hid (d = 20)) (hq : Hid (fewV (.mk k n s l) = true)) (hrn : rn ≤ 2000) (hRn : Hid (R.length = rn)) (hm : Hid (l.length = m)) (hl : Hid ((Val.mk k n s l).enc.length ≤ 79000000)) (T : Bs) (ht : Hid (encT (.mk k n s l) = (T, 0))) (tn : Nat) (htn : Hid (T.length = tn)) (htl : Hid (tn ≤ 79000000)) (hch : Hid (chkT (.mk k n s l) = 0)) (hdx : Hid (decT T = (.mk k n s l, 0))) (hdr : Hid (decT R = (Val.zero, 10))) : Calls Try.prog 6 #[.agg #[.int .i64 k, .int .i64 n, .string (strB s), .slice A m c], .slice Ar rn cr] w (fun e w' => e = .returned (.bool true) ∧ Below w.heap.size w w') := by
  have hB := Below.refl w.heap.size w
  go_enter Try.func6, Try.ntmps6
  obtain rfl := hd.out
  clear hd
  go_wp2_with fail
  have hst := ((Below.refl w.heap.size w).alloc (by simp <;> omega) (.cells #[.int .i64 k, .int .i64 n, .string (strB s), .slice A m c] 24))
  have hBo := hB
  have hV := vals_later hV hst
  have hR := by_later hR hst
  have hB := hB.trans (hst.mono hB.size)
  have X0 := (Box.newAt (w := w) (n := w.heap.size) [.int .i64 k, .int .i64 n, .string (strB s), .slice A m c] 24 (by simp))
  clear hst
  generalize (w.alloc (.cells #[.int .i64 k, .int .i64 n, .string (strB s), .slice A m c] 24)) = w1 at hB  X0 hV hR ⊢
  generalize w.heap.size = X0a at X0 ⊢
  refine (sane_any _).mono ?_
  rintro e w2 ⟨rfl, hb⟩
  have X0 := X0.later hb
  have hV := vals_later hV hb
  have hR := by_later hR hb
  have hB := hB.trans (hb.mono hB.size)
  clear hb
  have X0c0 : w2.cell? ⟨X0a, 0, none⟩ = some (.int .i64 k) := X0.cell 0
  have X0c1 : w2.cell? ⟨X0a, 1, none⟩ = some (.int .i64 n) := X0.cell 1
  have X0c2 : w2.cell? ⟨X0a, 2, none⟩ = some (.string (strB s)) := X0.cell 2
  have X0c3 : w2.cell? ⟨X0a, 3, none⟩ = some (.slice A m c) := X0.cell 3
  have X0z : X0a < w2.heap.size := X0.lt
  go_wp2_with fail
  clear X0c0 X0c1 X0c2 X0c3 X0z
  have hst := ((Below.refl w2.heap.size w2).alloc (by simp <;> omega) (.cells #[.int .i64 k, .int .i64 n, .string (strB s), .slice A m c] 24))
  have hBo := hB
  have X0o := X0
  have X0 := X0.later hst
  have hV := vals_later hV hst
  have hR := by_later hR hst
  have hB := hB.trans (hst.mono hB.size)
  have F := (Box.newAt (w := w2) (n := w2.heap.size) [.int .i64 k, .int .i64 n, .string (strB s), .slice A m c] 24 (by simp))
  clear hst
  generalize (w2.alloc (.cells #[.int .i64 k, .int .i64 n, .string (strB s), .slice A m c] 24)) = w3 at hB X0 F hV hR ⊢
  generalize w2.heap.size = Fa at F ⊢
  have HF := few_any _ [.mk k n s l] _ _ (one_at F hV.out) ⟨hx.out, trivial⟩ true (Lib.hid (by rw [List.all_cons, hq.out]; rfl))
  go_wp2_with fail
  refine (HF).mono ?_
  rintro e w4 ⟨rfl, hb⟩
  have X0 := X0.later hb
  have F := F.later hb
  have hV := vals_later hV hb
  have hR := by_later hR hb
  have hB := hB.trans (hb.mono hB.size)
  clear hb
  clear HF
  clear F
  have X0c0 : w4.cell? ⟨X0a, 0, none⟩ = some (.int .i64 k) := X0.cell 0
  have X0c1 : w4.cell? ⟨X0a, 1, none⟩ = some (.int .i64 n) := X0.cell 1
  have X0c2 : w4.cell? ⟨X0a, 2, none⟩ = some (.string (strB s)) := X0.cell 2
  have X0c3 : w4.cell? ⟨X0a, 3, none⟩ = some (.slice A m c) := X0.cell 3
  have X0z : X0a < w4.heap.size := X0.lt
  go_wp2_with fail
  clear X0c0 X0c1 X0c2 X0c3 X0z
  have HE : Calls Try.prog 12 #[.agg #[.int .i64 k, .int .i64 n, .string (strB s), .slice A m c]] w4 (RetEnc (T, 0) w4) := by
    have := cEncode_any 20 (by decide) (.mk k n s l) _ w4 hV.out hx.out hl.out
    rw [ht.out] at this
    exact this
  refine HE.mono ?_
  intro e w5 hh
  obtain ⟨Ae, ce, rfl, Be, hb⟩ := RetEnc.open hh htn
  clear hh HE
  have X0 := X0.later hb
  have hV := vals_later hV hb
  have hR := by_later hR hb
  have hB := hB.trans (hb.mono hB.size)
  clear hb
  have X0c0 : w5.cell? ⟨X0a, 0, none⟩ = some (.int .i64 k) := X0.cell 0
  have X0c1 : w5.cell? ⟨X0a, 1, none⟩ = some (.int .i64 n) := X0.cell 1
  have X0c2 : w5.cell? ⟨X0a, 2, none⟩ = some (.string (strB s)) := X0.cell 2
  have X0c3 : w5.cell? ⟨X0a, 3, none⟩ = some (.slice A m c) := X0.cell 3
  have X0z : X0a < w5.heap.size := X0.lt
  go_wp2_with fail
  clear X0c0 X0c1 X0c2 X0c3 X0z
  have HC : Calls Try.prog 16 #[.agg #[.int .i64 k, .int .i64 n, .string (strB s), .slice A m c]] w5 fun e w' => e = .returned (.int .i64 0) ∧ Below w5.heap.size w5 w' := by
    have := cCheck_any 20 (by decide) (.mk k n s l) _ w5 hV.out
    rw [hch.out] at this
    exact this
  go_wp2_with fail
  refine (HC).mono ?_
  rintro e w6 ⟨rfl, hb⟩
  have X0 := X0.later hb
  have hV := vals_later hV hb
  have hR := by_later hR hb
  have Be := by_later Be hb
  have hB := hB.trans (hb.mono hB.size)
  clear hb
  clear HC
  go_wp2_with fail
  have HD : Calls Try.prog 18 #[.slice Ae tn ce] w6 (RetDec (.mk k n s l, 0) w6) := by
    have := cDecode_any T _ w6 (by_lt Be) (by rw [htn.out]; exact Nat.le_trans htl.out (by decide))
    rw [hdx.out] at this
    exact this
  refine HD.mono ?_
  intro e w7 hh
  obtain ⟨Ax, cx, rfl, hVx, hb⟩ := RetDec.open2 hh hm
  clear hh HD
  have X0 := X0.later hb
  have hV := vals_later hV hb
  have hR := by_later hR hb
  have Be := by_later Be hb
  have hB := hB.trans (hb.mono hB.size)
  clear hb
  have X0c0 : w7.cell? ⟨X0a, 0, none⟩ = some (.int .i64 k) := X0.cell 0
  have X0c1 : w7.cell? ⟨X0a, 1, none⟩ = some (.int .i64 n) := X0.cell 1
  have X0c2 : w7.cell? ⟨X0a, 2, none⟩ = some (.string (strB s)) := X0.cell 2
  have X0c3 : w7.cell? ⟨X0a, 3, none⟩ = some (.slice A m c) := X0.cell 3
  have X0z : X0a < w7.heap.size := X0.lt
  go_wp2_with fail
  clear X0c0 X0c1 X0c2 X0c3 X0z
  have hst := ((Below.refl w7.heap.size w7).alloc (by simp <;> omega) (.cells #[.int .i64 k, .int .i64 n, .string (strB s), .slice Ax m cx] 24))
  have hBo := hB
  have X0o := X0
  have X0 := X0.later hst
  have hV := vals_later hV hst
  have hR := by_later hR hst
  have Be := by_later Be hst
  have hVx := vals_later hVx hst
  have hB := hB.trans (hst.mono hB.size)
  have D := (Box.newAt (w := w7) (n := w7.heap.size) [.int .i64 k, .int .i64 n, .string (strB s), .slice Ax m cx] 24 (by simp))
  clear hst
  generalize (w7.alloc (.cells #[.int .i64 k, .int .i64 n, .string (strB s), .slice Ax m cx] 24)) = w8 at hB X0 D hV hR Be hVx ⊢
  generalize w7.heap.size = Da at D ⊢
  have X0c0 : w8.cell? ⟨X0a, 0, none⟩ = some (.int .i64 k) := X0.cell 0
  have X0c1 : w8.cell? ⟨X0a, 1, none⟩ = some (.int .i64 n) := X0.cell 1
  have X0c2 : w8.cell? ⟨X0a, 2, none⟩ = some (.string (strB s)) := X0.cell 2
  have X0c3 : w8.cell? ⟨X0a, 3, none⟩ = some (.slice A m c) := X0.cell 3
  have X0z : X0a < w8.heap.size := X0.lt
  have Dc0 : w8.cell? ⟨Da, 0, none⟩ = some (.int .i64 k) := D.cell 0
  have Dc1 : w8.cell? ⟨Da, 1, none⟩ = some (.int .i64 n) := D.cell 1
  have Dc2 : w8.cell? ⟨Da, 2, none⟩ = some (.string (strB s)) := D.cell 2
  have Dc3 : w8.cell? ⟨Da, 3, none⟩ = some (.slice Ax m cx) := D.cell 3
  have Dz : Da < w8.heap.size := D.lt
  go_wp2_with fail
  clear X0c0 X0c1 X0c2 X0c3 X0z Dc0 Dc1 Dc2 Dc3 Dz
  have HS : Calls Try.prog 21 #[.agg #[.int .i64 k, .int .i64 n, .string (strB s), .slice A m c], .agg #[.int .i64 k, .int .i64 n, .string (strB s), .slice Ax m cx]] w8 fun e w' => e = .returned (.bool true) ∧ Below w8.heap.size w8 w' := by
    have := SameC.all 20 (.mk k n s l) (.mk k n s l) _ _ w8 (hV.out) (hVx.out)
    rw [Val.same_refl] at this
    exact this
  go_wp2_with fail
  refine (HS).mono ?_
  rintro e w9 ⟨rfl, hb⟩
  have X0 := X0.later hb
  have D := D.later hb
  have hV := vals_later hV hb
  have hR := by_later hR hb
  have Be := by_later Be hb
  have hVx := vals_later hVx hb
  have hB := hB.trans (hb.mono hB.size)
  clear hb
  clear HS
  have X0c0 : w9.cell? ⟨X0a, 0, none⟩ = some (.int .i64 k) := X0.cell 0
  have X0c1 : w9.cell? ⟨X0a, 1, none⟩ = some (.int .i64 n) := X0.cell 1
  have X0c2 : w9.cell? ⟨X0a, 2, none⟩ = some (.string (strB s)) := X0.cell 2
  have X0c3 : w9.cell? ⟨X0a, 3, none⟩ = some (.slice A m c) := X0.cell 3
  have X0z : X0a < w9.heap.size := X0.lt
  have Dc0 : w9.cell? ⟨Da, 0, none⟩ = some (.int .i64 k) := D.cell 0
  have Dc1 : w9.cell? ⟨Da, 1, none⟩ = some (.int .i64 n) := D.cell 1
  have Dc2 : w9.cell? ⟨Da, 2, none⟩ = some (.string (strB s)) := D.cell 2
  have Dc3 : w9.cell? ⟨Da, 3, none⟩ = some (.slice Ax m cx) := D.cell 3
  have Dz : Da < w9.heap.size := D.lt
  go_wp2_with fail
  clear X0c0 X0c1 X0c2 X0c3 X0z Dc0 Dc1 Dc2 Dc3 Dz
  have HS : Calls Try.prog 20 #[.agg #[.int .i64 k, .int .i64 n, .string (strB s), .slice A m c], .agg #[.int .i64 k, .int .i64 n, .string (strB s), .slice Ax m cx]] w9 fun e w' => e = .returned (.bool true) ∧ Below w9.heap.size w9 w' := by
    have := SameR.all 20 (.mk k n s l) (.mk k n s l) _ _ w9 (hV.out) (hVx.out)
    rw [Val.same_refl] at this
    exact this
  go_wp2_with fail
  refine (HS).mono ?_
  rintro e w10 ⟨rfl, hb⟩
  have X0 := X0.later hb
  have D := D.later hb
  have hV := vals_later hV hb
  have hR := by_later hR hb
  have Be := by_later Be hb
  have hVx := vals_later hVx hb
  have hB := hB.trans (hb.mono hB.size)
  clear hb
  clear HS
  clear D
  go_wp2_with fail
  have HD : Calls Try.prog 18 #[.slice Ar rn cr] w10 (RetDec (Val.zero, 10) w10) := by
    have := cDecode_any R _ w10 (by_lt hR) (by rw [hRn.out]; omega)
    rw [hdr.out] at this
    exact this
  refine HD.mono ?_
  intro e w11 hh
  obtain ⟨Ay, cy, rfl, hVy, hb⟩ := RetDec.open2 hh (m := 0) (Lib.hid rfl)
  clear hh HD
  have X0 := X0.later hb
  have hV := vals_later hV hb
  have hR := by_later hR hb
  have Be := by_later Be hb
  have hVx := vals_later hVx hb
  have hB := hB.trans (hb.mono hB.size)
  clear hb
  go_wp2_with fail
  have hst := ((Below.refl w11.heap.size w11).alloc (by simp <;> omega) (.cells #[.int .i64 0, .int .i64 0, .string (strB []), .slice Ay 0 cy] 24))
  have hBo := hB
  have X0o := X0
  have X0 := X0.later hst
  have hV := vals_later hV hst
  have hR := by_later hR hst
  have Be := by_later Be hst
  have hVx := vals_later hVx hst
  have hVy := vals_later hVy hst
  have hB := hB.trans (hst.mono hB.size)
  have E := (Box.newAt (w := w11) (n := w11.heap.size) [.int .i64 0, .int .i64 0, .string (strB []), .slice Ay 0 cy] 24 (by simp))
  clear hst
  generalize (w11.alloc (.cells #[.int .i64 0, .int .i64 0, .string (strB []), .slice Ay 0 cy] 24)) = w12 at hB X0 E hV hR Be hVx hVy ⊢
  generalize w11.heap.size = Ea at E ⊢
  have Ec0 : w12.cell? ⟨Ea, 0, none⟩ = some (.int .i64 0) := E.cell 0
  have Ec1 : w12.cell? ⟨Ea, 1, none⟩ = some (.int .i64 0) := E.cell 1
  have Ec2 : w12.cell? ⟨Ea, 2, none⟩ = some (.string (strB [])) := E.cell 2
  have Ec3 : w12.cell? ⟨Ea, 3, none⟩ = some (.slice Ay 0 cy) := E.cell 3
  have Ez : Ea < w12.heap.size := E.lt
  go_wp2_with fail
  clear Ec0 Ec1 Ec2 Ec3 Ez
  have HS : Calls Try.prog 21 #[.agg #[.int .i64 0, .int .i64 0, .string (strB []), .slice Ay 0 cy], .agg #[.int .i64 0, .int .i64 0, .string ⟨#[]⟩, .slice none 0 0]] w12 fun e w' => e = .returned (.bool true) ∧ Below w12.heap.size w12 w' := by
    have := SameC.all 20 (Val.zero) (Val.zero) _ _ w12 (hVy.out) (valsAt_nil _ _ _)
    rw [Val.same_refl] at this
    exact this
  go_wp2_with fail
  refine (HS).mono ?_
  rintro e w13 ⟨rfl, hb⟩
  have X0 := X0.later hb
  have E := E.later hb
  have hV := vals_later hV hb
  have hR := by_later hR hb
  have Be := by_later Be hb
  have hVx := vals_later hVx hb
  have hVy := vals_later hVy hb
  have hB := hB.trans (hb.mono hB.size)
  clear hb
  clear HS
  go_wp2
  go_ret
  exact ⟨rfl, hB⟩

set_option maxRecDepth 100000 in
set_option maxHeartbeats 8000000 in
theorem lawR_ft (k n : Int) (s : Bs) (l : List Val) (A : Option Addr) (m c d : Nat) (w : World) (hV : Hid (ValsAt w w.heap.size d (.slice A m c) l)) (hx : Hid (Val.mk k n s l).fits) (R : Bs) (Ar : Option Addr) (rn cr : Nat) (hR : Hid (BsAt w Any (.slice Ar rn cr) R)) (hd : Hid (d = 20)) (hq : Hid (fewV (.mk k n s l) = true)) (hrn : rn ≤ 2000) (hRn : Hid (R.length = rn)) (hl : Hid ((Val.mk k n s l).enc.length ≤ 79000000)) (T : Bs) (er : Int) (ht : Hid (encT (.mk k n s l) = (T, er))) (tn : Nat) (htn : Hid (T.length = tn)) (hch : Hid (chkT (.mk k n s l) = er)) (he : er ≠ 0) (k4 n4 : Int) (s4 : Bs) (l4 : List Val) (m4 : Nat) (hdr : Hid (decT R = (.mk k4 n4 s4 l4, 0))) (hm4 : Hid (l4.length = m4)) (hy : Hid (Val.mk k4 n4 s4 l4).fits) (hyl : Hid ((Val.mk k4 n4 s4 l4).enc.length ≤ 79000000)) (hyt : Hid (encT (.mk k4 n4 s4 l4) = (R, 0))) (hyc : Hid (chkT (.mk k4 n4 s4 l4) = 0)) : Calls Try.prog 6 #[.agg #[.int .i64 k, .int .i64 n, .string (strB s), .slice A m c], .slice Ar rn cr] w (fun e w' => e = .returned (.bool true) ∧ Below w.heap.size w w') := by
  have hB := Below.refl w.heap.size w
  go_enter Try.func6, Try.ntmps6
  obtain rfl := hd.out
  clear hd
  go_wp2_with fail
  have hst := ((Below.refl w.heap.size w).alloc (by simp <;> omega) (.cells #[.int .i64 k, .int .i64 n, .string (strB s), .slice A m c] 24))
  have hBo := hB
  have hV := vals_later hV hst
  have hR := by_later hR hst
  have hB := hB.trans (hst.mono hB.size)
  have X0 := (Box.newAt (w := w) (n := w.heap.size) [.int .i64 k, .int .i64 n, .string (strB s), .slice A m c] 24 (by simp))
  clear hst
  generalize (w.alloc (.cells #[.int .i64 k, .int .i64 n, .string (strB s), .slice A m c] 24)) = w1 at hB  X0 hV hR ⊢
  generalize w.heap.size = X0a at X0 ⊢
  refine (sane_any _).mono ?_
  rintro e w2 ⟨rfl, hb⟩
  have X0 := X0.later hb
  have hV := vals_later hV hb
  have hR := by_later hR hb
  have hB := hB.trans (hb.mono hB.size)
  clear hb
  have X0c0 : w2.cell? ⟨X0a, 0, none⟩ = some (.int .i64 k) := X0.cell 0
  have X0c1 : w2.cell? ⟨X0a, 1, none⟩ = some (.int .i64 n) := X0.cell 1
  have X0c2 : w2.cell? ⟨X0a, 2, none⟩ = some (.string (strB s)) := X0.cell 2
  have X0c3 : w2.cell? ⟨X0a, 3, none⟩ = some (.slice A m c) := X0.cell 3
  have X0z : X0a < w2.heap.size := X0.lt
  go_wp2_with fail
  clear X0c0 X0c1 X0c2 X0c3 X0z
  have hst := ((Below.refl w2.heap.size w2).alloc (by simp <;> omega) (.cells #[.int .i64 k, .int .i64 n, .string (strB s), .slice A m c] 24))
  have hBo := hB
  have X0o := X0
  have X0 := X0.later hst
  have hV := vals_later hV hst
  have hR := by_later hR hst
  have hB := hB.trans (hst.mono hB.size)
  have F := (Box.newAt (w := w2) (n := w2.heap.size) [.int .i64 k, .int .i64 n, .string (strB s), .slice A m c] 24 (by simp))
  clear hst
  generalize (w2.alloc (.cells #[.int .i64 k, .int .i64 n, .string (strB s), .slice A m c] 24)) = w3 at hB X0 F hV hR ⊢
  generalize w2.heap.size = Fa at F ⊢
  have HF := few_any _ [.mk k n s l] _ _ (one_at F hV.out) ⟨hx.out, trivial⟩ true (Lib.hid (by rw [List.all_cons, hq.out]; rfl))
  go_wp2_with fail
  refine (HF).mono ?_
  rintro e w4 ⟨rfl, hb⟩
  have X0 := X0.later hb
  have F := F.later hb
  have hV := vals_later hV hb
  have hR := by_later hR hb
  have hB := hB.trans (hb.mono hB.size)
  clear hb
  clear HF
  clear F
  have X0c0 : w4.cell? ⟨X0a, 0, none⟩ = some (.int .i64 k) := X0.cell 0
  have X0c1 : w4.cell? ⟨X0a, 1, none⟩ = some (.int .i64 n) := X0.cell 1
  have X0c2 : w4.cell? ⟨X0a, 2, none⟩ = some (.string (strB s)) := X0.cell 2
  have X0c3 : w4.cell? ⟨X0a, 3, none⟩ = some (.slice A m c) := X0.cell 3
  have X0z : X0a < w4.heap.size := X0.lt
  go_wp2_with fail
  clear X0c0 X0c1 X0c2 X0c3 X0z
  have HE : Calls Try.prog 12 #[.agg #[.int .i64 k, .int .i64 n, .string (strB s), .slice A m c]] w4 (RetEnc (T, er) w4) := by
    have := cEncode_any 20 (by decide) (.mk k n s l) _ w4 hV.out hx.out hl.out
    rw [ht.out] at this
    exact this
  refine HE.mono ?_
  intro e w5 hh
  obtain ⟨Ae, ce, rfl, Be, hb⟩ := RetEnc.open hh htn
  clear hh HE
  have X0 := X0.later hb
  have hV := vals_later hV hb
  have hR := by_later hR hb
  have hB := hB.trans (hb.mono hB.size)
  clear hb
  have X0c0 : w5.cell? ⟨X0a, 0, none⟩ = some (.int .i64 k) := X0.cell 0
  have X0c1 : w5.cell? ⟨X0a, 1, none⟩ = some (.int .i64 n) := X0.cell 1
  have X0c2 : w5.cell? ⟨X0a, 2, none⟩ = some (.string (strB s)) := X0.cell 2
  have X0c3 : w5.cell? ⟨X0a, 3, none⟩ = some (.slice A m c) := X0.cell 3
  have X0z : X0a < w5.heap.size := X0.lt
  go_wp2_with fail
  clear X0c0 X0c1 X0c2 X0c3 X0z
  have HC : Calls Try.prog 16 #[.agg #[.int .i64 k, .int .i64 n, .string (strB s), .slice A m c]] w5 fun e w' => e = .returned (.int .i64 er) ∧ Below w5.heap.size w5 w' := by
    have := cCheck_any 20 (by decide) (.mk k n s l) _ w5 hV.out
    rw [hch.out] at this
    exact this
  go_wp2_with fail
  refine (HC).mono ?_
  rintro e w6 ⟨rfl, hb⟩
  have X0 := X0.later hb
  have hV := vals_later hV hb
  have hR := by_later hR hb
  have Be := by_later Be hb
  have hB := hB.trans (hb.mono hB.size)
  clear hb
  clear HC
  go_wp2_with fail
  have HD : Calls Try.prog 18 #[.slice Ar rn cr] w6 (RetDec (.mk k4 n4 s4 l4, 0) w6) := by
    have := cDecode_any R _ w6 (by_lt hR) (by rw [hRn.out]; omega)
    rw [hdr.out] at this
    exact this
  refine HD.mono ?_
  intro e w7 hh
  obtain ⟨Ay, cy, rfl, hVy, hb⟩ := RetDec.open2 hh hm4
  clear hh HD
  have X0 := X0.later hb
  have hV := vals_later hV hb
  have hR := by_later hR hb
  have Be := by_later Be hb
  have hB := hB.trans (hb.mono hB.size)
  clear hb
  go_wp2_with fail
  have hst := ((Below.refl w7.heap.size w7).alloc (by simp <;> omega) (.cells #[.int .i64 k4, .int .i64 n4, .string (strB s4), .slice Ay m4 cy] 24))
  have hBo := hB
  have X0o := X0
  have X0 := X0.later hst
  have hV := vals_later hV hst
  have hR := by_later hR hst
  have Be := by_later Be hst
  have hVy := vals_later hVy hst
  have hB := hB.trans (hst.mono hB.size)
  have E := (Box.newAt (w := w7) (n := w7.heap.size) [.int .i64 k4, .int .i64 n4, .string (strB s4), .slice Ay m4 cy] 24 (by simp))
  clear hst
  generalize (w7.alloc (.cells #[.int .i64 k4, .int .i64 n4, .string (strB s4), .slice Ay m4 cy] 24)) = w8 at hB X0 E hV hR Be hVy ⊢
  generalize w7.heap.size = Ea at E ⊢
  have Ec0 : w8.cell? ⟨Ea, 0, none⟩ = some (.int .i64 k4) := E.cell 0
  have Ec1 : w8.cell? ⟨Ea, 1, none⟩ = some (.int .i64 n4) := E.cell 1
  have Ec2 : w8.cell? ⟨Ea, 2, none⟩ = some (.string (strB s4)) := E.cell 2
  have Ec3 : w8.cell? ⟨Ea, 3, none⟩ = some (.slice Ay m4 cy) := E.cell 3
  have Ez : Ea < w8.heap.size := E.lt
  go_wp2_with fail
  clear Ec0 Ec1 Ec2 Ec3 Ez
  have HE : Calls Try.prog 12 #[.agg #[.int .i64 k4, .int .i64 n4, .string (strB s4), .slice Ay m4 cy]] w8 (RetEnc (R, 0) w8) := by
    have := cEncode_any 20 (by decide) (.mk k4 n4 s4 l4) _ w8 hVy.out hy.out hyl.out
    rw [hyt.out] at this
    exact this
  refine HE.mono ?_
  intro e w9 hh
  obtain ⟨Af, cf, rfl, Bf, hb⟩ := RetEnc.open hh hRn
  clear hh HE
  have X0 := X0.later hb
  have E := E.later hb
  have hV := vals_later hV hb
  have hR := by_later hR hb
  have Be := by_later Be hb
  have hVy := vals_later hVy hb
  have hB := hB.trans (hb.mono hB.size)
  clear hb
  have v1 := Bf.out.str
  have v2 := hR.out.str
  generalize strB R = st at v1 v2
  have Ec0 : w9.cell? ⟨Ea, 0, none⟩ = some (.int .i64 k4) := E.cell 0
  have Ec1 : w9.cell? ⟨Ea, 1, none⟩ = some (.int .i64 n4) := E.cell 1
  have Ec2 : w9.cell? ⟨Ea, 2, none⟩ = some (.string (strB s4)) := E.cell 2
  have Ec3 : w9.cell? ⟨Ea, 3, none⟩ = some (.slice Ay m4 cy) := E.cell 3
  have Ez : Ea < w9.heap.size := E.lt
  go_wp2_with fail
  clear Ec0 Ec1 Ec2 Ec3 Ez
  have HC : Calls Try.prog 16 #[.agg #[.int .i64 k4, .int .i64 n4, .string (strB s4), .slice Ay m4 cy]] w9 fun e w' => e = .returned (.int .i64 0) ∧ Below w9.heap.size w9 w' := by
    have := cCheck_any 20 (by decide) (.mk k4 n4 s4 l4) _ w9 hVy.out
    rw [hyc.out] at this
    exact this
  go_wp2_with fail
  refine (HC).mono ?_
  rintro e w10 ⟨rfl, hb⟩
  have X0 := X0.later hb
  have E := E.later hb
  have hV := vals_later hV hb
  have hR := by_later hR hb
  have Be := by_later Be hb
  have hVy := vals_later hVy hb
  have Bf := by_later Bf hb
  have hB := hB.trans (hb.mono hB.size)
  clear hb
  clear HC
  go_wp2
  go_ret
  exact ⟨rfl, hB⟩

set_option maxRecDepth 100000 in
set_option maxHeartbeats 8000000 in
theorem lawR_ff (k n : Int) (s : Bs) (l : List Val) (A : Option Addr) (m c d : Nat) (w : World) (hV : Hid (ValsAt w w.heap.size d (.slice A m c) l)) (hx : Hid (Val.mk k n s l).fits) (R : Bs) (Ar : Option Addr) (rn cr : Nat) (hR : Hid (BsAt w Any (.slice Ar rn cr) R)) (hd : Hid (d = 20)) (hq : Hid (fewV (.mk k n s l) = true)) (hrn : rn ≤ 2000) (hRn : Hid (R.length = rn)) (hl : Hid ((Val.mk k n s l).enc.length ≤ 79000000)) (T : Bs) (er : Int) (ht : Hid (encT (.mk k n s l) = (T, er))) (tn : Nat) (htn : Hid (T.length = tn)) (hch : Hid (chkT (.mk k n s l) = er)) (he : er ≠ 0) (hdr : Hid (decT R = (Val.zero, 10))) : Calls Try.prog 6 #[.agg #[.int .i64 k, .int .i64 n, .string (strB s), .slice A m c], .slice Ar rn cr] w (fun e w' => e = .returned (.bool true) ∧ Below w.heap.size w w') := by
  have hB := Below.refl w.heap.size w
  go_enter Try.func6, Try.ntmps6
  obtain rfl := hd.out
  clear hd
  go_wp2_with fail
  have hst := ((Below.refl w.heap.size w).alloc (by simp <;> omega) (.cells #[.int .i64 k, .int .i64 n, .string (strB s), .slice A m c] 24))
  have hBo := hB
  have hV := vals_later hV hst
  have hR := by_later hR hst
  have hB := hB.trans (hst.mono hB.size)
  have X0 := (Box.newAt (w := w) (n := w.heap.size) [.int .i64 k, .int .i64 n, .string (strB s), .slice A m c] 24 (by simp))
  clear hst
  generalize (w.alloc (.cells #[.int .i64 k, .int .i64 n, .string (strB s), .slice A m c] 24)) = w1 at hB  X0 hV hR ⊢
  generalize w.heap.size = X0a at X0 ⊢
  refine (sane_any _).mono ?_
  rintro e w2 ⟨rfl, hb⟩
  have X0 := X0.later hb
  have hV := vals_later hV hb
  have hR := by_later hR hb
  have hB := hB.trans (hb.mono hB.size)
  clear hb
  have X0c0 : w2.cell? ⟨X0a, 0, none⟩ = some (.int .i64 k) := X0.cell 0
  have X0c1 : w2.cell? ⟨X0a, 1, none⟩ = some (.int .i64 n) := X0.cell 1
  have X0c2 : w2.cell? ⟨X0a, 2, none⟩ = some (.string (strB s)) := X0.cell 2
  have X0c3 : w2.cell? ⟨X0a, 3, none⟩ = some (.slice A m c) := X0.cell 3
  have X0z : X0a < w2.heap.size := X0.lt
  go_wp2_with fail
  clear X0c0 X0c1 X0c2 X0c3 X0z
  have hst := ((Below.refl w2.heap.size w2).alloc (by simp <;> omega) (.cells #[.int .i64 k, .int .i64 n, .string (strB s), .slice A m c] 24))
  have hBo := hB
  have X0o := X0
  have X0 := X0.later hst
  have hV := vals_later hV hst
  have hR := by_later hR hst
  have hB := hB.trans (hst.mono hB.size)
  have F := (Box.newAt (w := w2) (n := w2.heap.size) [.int .i64 k, .int .i64 n, .string (strB s), .slice A m c] 24 (by simp))
  clear hst
  generalize (w2.alloc (.cells #[.int .i64 k, .int .i64 n, .string (strB s), .slice A m c] 24)) = w3 at hB X0 F hV hR ⊢
  generalize w2.heap.size = Fa at F ⊢
  have HF := few_any _ [.mk k n s l] _ _ (one_at F hV.out) ⟨hx.out, trivial⟩ true (Lib.hid (by rw [List.all_cons, hq.out]; rfl))
  go_wp2_with fail
  refine (HF).mono ?_
  rintro e w4 ⟨rfl, hb⟩
  have X0 := X0.later hb
  have F := F.later hb
  have hV := vals_later hV hb
  have hR := by_later hR hb
  have hB := hB.trans (hb.mono hB.size)
  clear hb
  clear HF
  clear F
  have X0c0 : w4.cell? ⟨X0a, 0, none⟩ = some (.int .i64 k) := X0.cell 0
  have X0c1 : w4.cell? ⟨X0a, 1, none⟩ = some (.int .i64 n) := X0.cell 1
  have X0c2 : w4.cell? ⟨X0a, 2, none⟩ = some (.string (strB s)) := X0.cell 2
  have X0c3 : w4.cell? ⟨X0a, 3, none⟩ = some (.slice A m c) := X0.cell 3
  have X0z : X0a < w4.heap.size := X0.lt
  go_wp2_with fail
  clear X0c0 X0c1 X0c2 X0c3 X0z
  have HE : Calls Try.prog 12 #[.agg #[.int .i64 k, .int .i64 n, .string (strB s), .slice A m c]] w4 (RetEnc (T, er) w4) := by
    have := cEncode_any 20 (by decide) (.mk k n s l) _ w4 hV.out hx.out hl.out
    rw [ht.out] at this
    exact this
  refine HE.mono ?_
  intro e w5 hh
  obtain ⟨Ae, ce, rfl, Be, hb⟩ := RetEnc.open hh htn
  clear hh HE
  have X0 := X0.later hb
  have hV := vals_later hV hb
  have hR := by_later hR hb
  have hB := hB.trans (hb.mono hB.size)
  clear hb
  have X0c0 : w5.cell? ⟨X0a, 0, none⟩ = some (.int .i64 k) := X0.cell 0
  have X0c1 : w5.cell? ⟨X0a, 1, none⟩ = some (.int .i64 n) := X0.cell 1
  have X0c2 : w5.cell? ⟨X0a, 2, none⟩ = some (.string (strB s)) := X0.cell 2
  have X0c3 : w5.cell? ⟨X0a, 3, none⟩ = some (.slice A m c) := X0.cell 3
  have X0z : X0a < w5.heap.size := X0.lt
  go_wp2_with fail
  clear X0c0 X0c1 X0c2 X0c3 X0z
  have HC : Calls Try.prog 16 #[.agg #[.int .i64 k, .int .i64 n, .string (strB s), .slice A m c]] w5 fun e w' => e = .returned (.int .i64 er) ∧ Below w5.heap.size w5 w' := by
    have := cCheck_any 20 (by decide) (.mk k n s l) _ w5 hV.out
    rw [hch.out] at this
    exact this
  go_wp2_with fail
  refine (HC).mono ?_
  rintro e w6 ⟨rfl, hb⟩
  have X0 := X0.later hb
  have hV := vals_later hV hb
  have hR := by_later hR hb
  have Be := by_later Be hb
  have hB := hB.trans (hb.mono hB.size)
  clear hb
  clear HC
  go_wp2_with fail
  have HD : Calls Try.prog 18 #[.slice Ar rn cr] w6 (RetDec (Val.zero, 10) w6) := by
    have := cDecode_any R _ w6 (by_lt hR) (by rw [hRn.out]; omega)
    rw [hdr.out] at this
    exact this
  refine HD.mono ?_
  intro e w7 hh
  obtain ⟨Ay, cy, rfl, hVy, hb⟩ := RetDec.open2 hh (m := 0) (Lib.hid rfl)
  clear hh HD
  have X0 := X0.later hb
  have hV := vals_later hV hb
  have hR := by_later hR hb
  have Be := by_later Be hb
  have hB := hB.trans (hb.mono hB.size)
  clear hb
  go_wp2_with fail
  have hst := ((Below.refl w7.heap.size w7).alloc (by simp <;> omega) (.cells #[.int .i64 0, .int .i64 0, .string (strB []), .slice Ay 0 cy] 24))
  have hBo := hB
  have X0o := X0
  have X0 := X0.later hst
  have hV := vals_later hV hst
  have hR := by_later hR hst
  have Be := by_later Be hst
  have hVy := vals_later hVy hst
  have hB := hB.trans (hst.mono hB.size)
  have E := (Box.newAt (w := w7) (n := w7.heap.size) [.int .i64 0, .int .i64 0, .string (strB []), .slice Ay 0 cy] 24 (by simp))
  clear hst
  generalize (w7.alloc (.cells #[.int .i64 0, .int .i64 0, .string (strB []), .slice Ay 0 cy] 24)) = w8 at hB X0 E hV hR Be hVy ⊢
  generalize w7.heap.size = Ea at E ⊢
  have Ec0 : w8.cell? ⟨Ea, 0, none⟩ = some (.int .i64 0) := E.cell 0
  have Ec1 : w8.cell? ⟨Ea, 1, none⟩ = some (.int .i64 0) := E.cell 1
  have Ec2 : w8.cell? ⟨Ea, 2, none⟩ = some (.string (strB [])) := E.cell 2
  have Ec3 : w8.cell? ⟨Ea, 3, none⟩ = some (.slice Ay 0 cy) := E.cell 3
  have Ez : Ea < w8.heap.size := E.lt
  go_wp2_with fail
  clear Ec0 Ec1 Ec2 Ec3 Ez
  have HS : Calls Try.prog 21 #[.agg #[.int .i64 0, .int .i64 0, .string (strB []), .slice Ay 0 cy], .agg #[.int .i64 0, .int .i64 0, .string ⟨#[]⟩, .slice none 0 0]] w8 fun e w' => e = .returned (.bool true) ∧ Below w8.heap.size w8 w' := by
    have := SameC.all 20 (Val.zero) (Val.zero) _ _ w8 (hVy.out) (valsAt_nil _ _ _)
    rw [Val.same_refl] at this
    exact this
  go_wp2_with fail
  refine (HS).mono ?_
  rintro e w9 ⟨rfl, hb⟩
  have X0 := X0.later hb
  have E := E.later hb
  have hV := vals_later hV hb
  have hR := by_later hR hb
  have Be := by_later Be hb
  have hVy := vals_later hVy hb
  have hB := hB.trans (hb.mono hB.size)
  clear hb
  clear HS
  go_wp2
  go_ret
  exact ⟨rfl, hB⟩

theorem law_CodecRoundTrip (x : Val) (R : Bs) (L V : Value) (d : Nat) (w : World) (hV : ValsAt w w.heap.size d L x.elems) (hR : BsAt w (fun b => b < w.heap.size) V R) (hx : x.fits) :
    Calls Try.prog 6 #[.agg #[.int .i64 x.kind, .int .i64 x.num, .string (strB x.str), L], V] w (fun e w' => e = .returned (.bool true) ∧ Below w.heap.size w w') := by
  obtain ⟨A, c, rfl, _⟩ := hV.form
  obtain ⟨Ar, cr, rfl, _⟩ := hR.form
  have hR' : Hid (BsAt w Any (.slice Ar R.length cr) R) := Lib.hid (hR.weak fun _ _ _ => trivial)
  obtain ⟨k, n, s, l⟩ := x
  rcases hq : fewV (.mk k n s l) with _ | _
  · exact lawR_no k n s l A _ c d w hV hx R Ar _ cr hR' hq
  rcases Nat.lt_or_ge 2000 R.length with hl | hl
  · exact lawR_long k n s l A _ c d w hV hx R Ar _ cr hR' hq hl
  obtain ⟨h1, h2⟩ := few_nest hx hq
  have h2' : (Val.mk k n s l).enc.length ≤ 79000000 := by omega
  have f1 := hV.fit h1
  rcases hr : rdVal 16 R with _ | ⟨⟨k4, n4, s4, l4⟩, r⟩
  · by_cases c1 : chkT (.mk k n s l) = 0
    · exact lawR_tf k n s l A _ c 20 w f1 hx R Ar _ cr hR' rfl hq hl rfl rfl (Lib.hid h2') _ (Lib.hid (enc_ok c1)) _ rfl (Lib.hid h2') (Lib.hid c1) (Lib.hid (dec_enc (chk_zero c1).1 hx (chk_zero c1).2)) (Lib.hid (dec_none hr))
    · exact lawR_ff k n s l A _ c 20 w f1 hx R Ar _ cr hR' rfl hq hl rfl (Lib.hid h2') _ _ (Lib.hid (enc_err c1)) _ rfl rfl c1 (Lib.hid (dec_none hr))
  · rcases r with _ | ⟨b, r⟩
    · obtain ⟨e1, e2, e3, e4⟩ := rdVal_inv 16 R _ _ hr
      have e5 := e4 (by unfold maxLen; omega)
      rw [List.append_nil] at e1
      have c4 : chkT (.mk k4 n4 s4 l4) = 0 := chk_ok e2 (by omega)
      have l4' : (Val.mk k4 n4 s4 l4).enc.length ≤ 79000000 := by rw [← e1]; omega
      have t4 : encT (.mk k4 n4 s4 l4) = (R, 0) := by rw [enc_ok c4, ← e1]
      by_cases c1 : chkT (.mk k n s l) = 0
      · exact lawR_tt k n s l A _ c 20 w f1 hx R Ar _ cr hR' rfl hq hl rfl rfl (Lib.hid h2') _ (Lib.hid (enc_ok c1)) _ rfl (Lib.hid h2') (Lib.hid c1) (Lib.hid (dec_enc (chk_zero c1).1 hx (chk_zero c1).2)) k4 n4 s4 l4 _ (Lib.hid (dec_some hr)) rfl (Lib.hid e5) (Lib.hid l4') (Lib.hid t4) (Lib.hid c4)
      · exact lawR_ft k n s l A _ c 20 w f1 hx R Ar _ cr hR' rfl hq hl rfl (Lib.hid h2') _ _ (Lib.hid (enc_err c1)) _ rfl rfl c1 k4 n4 s4 l4 _ (Lib.hid (dec_some hr)) rfl (Lib.hid e5) (Lib.hid l4') (Lib.hid t4) (Lib.hid c4)
    · have t := dec_more hr (List.cons_ne_nil b r)
      by_cases c1 : chkT (.mk k n s l) = 0
      · exact lawR_tf k n s l A _ c 20 w f1 hx R Ar _ cr hR' rfl hq hl rfl rfl (Lib.hid h2') _ (Lib.hid (enc_ok c1)) _ rfl (Lib.hid h2') (Lib.hid c1) (Lib.hid (dec_enc (chk_zero c1).1 hx (chk_zero c1).2)) (Lib.hid t)
      · exact lawR_ff k n s l A _ c 20 w f1 hx R Ar _ cr hR' rfl hq hl rfl (Lib.hid h2') _ _ (Lib.hid (enc_err c1)) _ rfl rfl c1 (Lib.hid t)

end Go.Proofs.Ytcokkloaljaanaa
