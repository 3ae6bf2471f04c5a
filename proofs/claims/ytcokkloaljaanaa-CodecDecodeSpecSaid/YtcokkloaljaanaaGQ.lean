/-
  The law CodecDecodeSpec. (Printed by gen_gq.py.)
-/
import Derived.Test.YtcokkloaljaanaaGP
namespace Go.Proofs.Ytcokkloaljaanaa
open Go.RowKit
attribute [local go_sem ↓ high] app_named

theorem rDecode_any (l : Bs) (V : Value) (w : World) (hb : BsAt w (fun b => b < w.heap.size) V l) (hl : l.length ≤ 79000000) : Calls Try.prog 19 #[V] w (RetDec (decT l) w) := by
  obtain ⟨A, c, rfl, _⟩ := hb.form
  rcases hv : rdVal 16 l with _ | ⟨⟨k, n, s, es⟩, r⟩
  · rw [dec_none hv]
    exact rDecode_bad l A _ c w hb rfl (by omega) fun x e => by rw [hv] at e; cases e
  · rcases r with _ | ⟨b, r⟩
    · obtain ⟨e1, e2, e3, e4⟩ := rdVal_inv 16 l _ _ hv
      have e5 := e4 (by unfold maxLen; omega)
      rw [List.append_nil] at e1
      rw [dec_some hv]
      exact rDecode_good l A _ c w hb rfl (by omega) k n s es _ rfl (Lib.hid hv) (Lib.hid e1.symm) (Lib.hid e2) (Lib.hid e5) (Lib.hid (chk_ok e2 (by omega))) (Lib.hid (by rw [← e1]; omega))
    · rw [dec_more hv (List.cons_ne_nil b r)]
      exact rDecode_bad l A _ c w hb rfl (by omega) fun x e => by rw [hv] at e; cases e
theorem RetDec.open3 {k n : Int} {s : Bs} {l : List Val} {m : Nat} {er : Int} {w : World} {e : Ending} {w' : World} (h : RetDec (.mk k n s l, er) w e w') (hm : Hid (l.length = m)) : ∃ A c, e = .returned (.tuple #[.agg #[.int .i64 k, .int .i64 n, .string (strB s), .slice A m c], .int .i64 er]) ∧ Hid (ValsAt w' w'.heap.size 16 (.slice A m c) l) ∧ Below w.heap.size w w' := by
  obtain ⟨A, c, he, hD, hb⟩ := RetDec.open h
  have hD2 := hD.vals
  have e1 : (Val.mk k n s l).elems.length = m := hm.out
  rw [e1] at he hD2
  exact ⟨A, c, he, Lib.hid hD2, hb⟩

set_option maxRecDepth 100000 in
set_option maxHeartbeats 8000000 in
theorem lawC_long (A : Option Addr) (n c : Nat) (w : World) (hl : 2000 < n) : Calls Try.prog 4 #[.slice A n c] w (fun e w' => e = .returned (.bool true) ∧ Below w.heap.size w w') := by
  have hB := Below.refl w.heap.size w
  go_enter Try.func4, Try.ntmps4
  go_wp2_with fail
  refine (sane_any _).mono ?_
  rintro e w1 ⟨rfl, hb⟩
  have hB := hB.trans (hb.mono hB.size)
  clear hb
  go_wp2
  go_ret
  exact ⟨rfl, hB⟩

set_option maxRecDepth 100000 in
set_option maxHeartbeats 8000000 in
theorem lawC_go (R : Bs) (A : Option Addr) (rn cr : Nat) (w : World) (hR : Hid (BsAt w Any (.slice A rn cr) R)) (hrn : rn ≤ 2000) (hRn : Hid (R.length = rn)) (k n : Int) (s : Bs) (l : List Val) (m : Nat) (hm : Hid (l.length = m)) (er : Int) (hd : Hid (decT R = (.mk k n s l, er))) : Calls Try.prog 4 #[.slice A rn cr] w (fun e w' => e = .returned (.bool true) ∧ Below w.heap.size w w') := by
  have hB := Below.refl w.heap.size w
  go_enter Try.func4, Try.ntmps4
  go_wp2_with fail
  refine (sane_any _).mono ?_
  rintro e w1 ⟨rfl, hb⟩
  have hR := by_later hR hb
  have hB := hB.trans (hb.mono hB.size)
  clear hb
  go_wp2_with fail
  have HD : Calls Try.prog 18 #[.slice A rn cr] w1 (RetDec (.mk k n s l, er) w1) := by
    have := cDecode_any R _ w1 (by_lt hR) (by rw [hRn.out]; omega)
    rw [hd.out] at this
    exact this
  refine HD.mono ?_
  intro e w2 hh
  obtain ⟨Ax, cx, rfl, hVx, hb⟩ := RetDec.open3 hh hm
  clear hh HD
  have hR := by_later hR hb
  have hB := hB.trans (hb.mono hB.size)
  clear hb
  go_wp2_with fail
  have hst := ((Below.refl w2.heap.size w2).alloc (by simp <;> omega) (.cells #[.int .i64 k, .int .i64 n, .string (strB s), .slice Ax m cx] 24))
  have hBo := hB
  have hR := by_later hR hst
  have hVx := vals_later hVx hst
  have hB := hB.trans (hst.mono hB.size)
  have D := (Box.newAt (w := w2) (n := w2.heap.size) [.int .i64 k, .int .i64 n, .string (strB s), .slice Ax m cx] 24 (by simp))
  clear hst
  generalize (w2.alloc (.cells #[.int .i64 k, .int .i64 n, .string (strB s), .slice Ax m cx] 24)) = w3 at hB  D hR hVx ⊢
  generalize w2.heap.size = Da at D ⊢
  go_wp2_with fail
  have HD : Calls Try.prog 19 #[.slice A rn cr] w3 (RetDec (.mk k n s l, er) w3) := by
    have := rDecode_any R _ w3 (by_lt hR) (by rw [hRn.out]; omega)
    rw [hd.out] at this
    exact this
  refine HD.mono ?_
  intro e w4 hh
  obtain ⟨Ay, cy, rfl, hVy, hb⟩ := RetDec.open3 hh hm
  clear hh HD
  have D := D.later hb
  have hR := by_later hR hb
  have hVx := vals_later hVx hb
  have hB := hB.trans (hb.mono hB.size)
  clear hb
  have Dc0 : w4.cell? ⟨Da, 0, none⟩ = some (.int .i64 k) := D.cell 0
  have Dc1 : w4.cell? ⟨Da, 1, none⟩ = some (.int .i64 n) := D.cell 1
  have Dc2 : w4.cell? ⟨Da, 2, none⟩ = some (.string (strB s)) := D.cell 2
  have Dc3 : w4.cell? ⟨Da, 3, none⟩ = some (.slice Ax m cx) := D.cell 3
  have Dz : Da < w4.heap.size := D.lt
  go_wp2_with fail
  clear Dc0 Dc1 Dc2 Dc3 Dz
  have hst := ((Below.refl w4.heap.size w4).alloc (by simp <;> omega) (.cells #[.int .i64 k, .int .i64 n, .string (strB s), .slice Ay m cy] 24))
  have hBo := hB
  have Do := D
  have D := D.later hst
  have hR := by_later hR hst
  have hVx := vals_later hVx hst
  have hVy := vals_later hVy hst
  have hB := hB.trans (hst.mono hB.size)
  have E := (Box.newAt (w := w4) (n := w4.heap.size) [.int .i64 k, .int .i64 n, .string (strB s), .slice Ay m cy] 24 (by simp))
  clear hst
  generalize (w4.alloc (.cells #[.int .i64 k, .int .i64 n, .string (strB s), .slice Ay m cy] 24)) = w5 at hB D E hR hVx hVy ⊢
  generalize w4.heap.size = Ea at E ⊢
  have HS : Calls Try.prog 20 #[.agg #[.int .i64 k, .int .i64 n, .string (strB s), .slice Ax m cx], .agg #[.int .i64 k, .int .i64 n, .string (strB s), .slice Ay m cy]] w5 fun e w' => e = .returned (.bool true) ∧ Below w5.heap.size w5 w' := by
    have := SameR.all 16 (.mk k n s l) (.mk k n s l) _ _ w5 hVx.out hVy.out
    rw [Val.same_refl] at this
    exact this
  go_wp2_with fail
  refine (HS).mono ?_
  rintro e w6 ⟨rfl, hb⟩
  have D := D.later hb
  have E := E.later hb
  have hR := by_later hR hb
  have hVx := vals_later hVx hb
  have hVy := vals_later hVy hb
  have hB := hB.trans (hb.mono hB.size)
  clear hb
  clear HS
  go_wp2
  go_ret
  exact ⟨by simp, hB⟩

theorem law_CodecDecodeSpec (R : Bs) (V : Value) (w : World) (hR : BsAt w (fun b => b < w.heap.size) V R) : Calls Try.prog 4 #[V] w (fun e w' => e = .returned (.bool true) ∧ Below w.heap.size w w') := by
  obtain ⟨A, c, rfl, _⟩ := hR.form
  rcases Nat.lt_or_ge 2000 R.length with hl | hl
  · exact lawC_long A _ c w hl
  · rcases hd : decT R with ⟨⟨k, n, s, l⟩, er⟩
    exact lawC_go R A _ c w (Lib.hid (hR.weak fun _ _ _ => trivial)) hl rfl k n s l _ rfl er (Lib.hid hd)

end Go.Proofs.Ytcokkloaljaanaa
