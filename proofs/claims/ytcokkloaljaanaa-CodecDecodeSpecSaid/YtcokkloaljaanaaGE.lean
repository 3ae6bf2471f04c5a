/-
  The laws CodecEncodeSpec and CodecSameSpec. (Printed by gen_ge.py.)
-/
import Derived.Test.YtcokkloaljaanaaGD
import Derived.Test.YtcokkloaljaanaaCS
namespace Go.Proofs.Ytcokkloaljaanaa
open Go.RowKit
attribute [local go_sem ↓ high] app_named

theorem vals_later {w w' : World} {d : Nat} {L : Value} {l : List Val} (h : Hid (ValsAt w w.heap.size d L l)) (hb : Below w.heap.size w w') : Hid (ValsAt w' w'.heap.size d L l) := Lib.hid (h.out.later hb)
def Any : Nat → Prop := fun _ => True
theorem by_later {w w' : World} {V : Value} {b : Bs} (h : Hid (BsAt w Any V b)) (hb : Below w.heap.size w w') : Hid (BsAt w' Any V b) := Lib.hid (h.out.keep (Keeps.of hb))
theorem by_lt {w : World} {V : Value} {b : Bs} (h : Hid (BsAt w Any V b)) : BsAt w (fun b => b < w.heap.size) V b := h.out.weak fun _ _ hl => hl
theorem RetEnc.open {T : Bs} {er : Int} {n : Nat} {w : World} {e : Ending} {w' : World} (h : RetEnc (T, er) w e w') (hn : Hid (T.length = n)) : ∃ A c, e = .returned (.tuple #[.slice A n c, .int .i64 er]) ∧ Hid (BsAt w' Any (.slice A n c) T) ∧ Below w.heap.size w w' := by
  obtain ⟨V, rfl, h1, h2⟩ := h
  obtain ⟨A, c, hv, _⟩ := h1.form
  dsimp only at hv h1 ⊢
  subst hv
  rw [hn.out] at h1 ⊢
  exact ⟨A, c, rfl, Lib.hid (h1.weak fun _ _ _ => trivial), h2⟩
theorem Later.str {W : World} {S : Nat → Prop} {v : Value} {l : Bs} (h : BsAt W S v l) (u : Later W) : (convert 27 9 v).run Try.prog u.w = .ok (.string (strB l)) u.w := (h.keep (Keeps.of u.below)).str
theorem one_at {w : World} {b d : Nat} {k n : Int} {s : Bs} {l : List Val} {L : Value} (h : Box w b [.int .i64 k, .int .i64 n, .string (strB s), L]) (hV : ValsAt w w.heap.size d L l) : ValsAt w w.heap.size (d + 1) (.slice (some ⟨b, 0, none⟩) 1 1) [.mk k n s l] := by
  refine ⟨.inr ⟨_, _, _, rfl, Nat.le_refl _, by simp [maxLen]⟩, fun _ => L, ⟨_, _, rfl, by simp [maxLen], fun i hi => ⟨b, 0, rfl, h.lt, fun j hj => ?_⟩⟩, fun i x hx => ?_⟩
  · obtain rfl : i = 0 := by simpa using hi
    rw [h.cell]
    rcases (show j = 0 ∨ j = 1 ∨ j = 2 ∨ j = 3 by omega) with rfl | rfl | rfl | rfl
    all_goals rfl
  · rcases i with _ | i
    · cases hx; exact hV
    · simp at hx
theorem two_at {w : World} {b d d2 : Nat} {k n k2 n2 : Int} {s s2 : Bs} {l l2 : List Val} {L L2 : Value} (h : Box w b [.int .i64 k, .int .i64 n, .string (strB s), L, .int .i64 k2, .int .i64 n2, .string (strB s2), L2]) (hV : ValsAt w w.heap.size d L l) (hV2 : ValsAt w w.heap.size d2 L2 l2) : ValsAt w w.heap.size (max d d2 + 1) (.slice (some ⟨b, 0, none⟩) 2 2) [.mk k n s l, .mk k2 n2 s2 l2] := by
  refine ⟨.inr ⟨_, _, _, rfl, Nat.le_refl _, by simp [maxLen]⟩, fun i => if i = 0 then L else L2, ⟨_, _, rfl, by simp [maxLen], fun i hi => ⟨b, 0, rfl, h.lt, fun j hj => ?_⟩⟩, fun i x hx => ?_⟩
  · have hi : i < 2 := by simpa using hi
    rw [h.cell]
    rcases (show i = 0 ∨ i = 1 by omega) with rfl | rfl
    all_goals
      rcases (show j = 0 ∨ j = 1 ∨ j = 2 ∨ j = 3 by omega) with rfl | rfl | rfl | rfl
      all_goals rfl
  · rcases i with _ | _ | i
    · cases hx
      exact hV.fit (Nat.le_trans hV.nest (Nat.le_max_left _ _))
    · cases hx
      exact hV2.fit (Nat.le_trans hV2.nest (Nat.le_max_right _ _))
    · simp at hx
theorem few_nest {k n : Int} {s : Bs} {l : List Val} (hf : (Val.mk k n s l).fits) (h : fewV (.mk k n s l) = true) : nestL l ≤ 20 ∧ (Val.mk k n s l).enc.length ≤ 42000 := by
  have := few_enc hf h
  rw [Val.nest] at this
  exact this

set_option maxRecDepth 100000 in
set_option maxHeartbeats 8000000 in
theorem lawE_no (k n : Int) (s : Bs) (l : List Val) (A : Option Addr) (m c d : Nat) (w : World) (hV : Hid (ValsAt w w.heap.size d (.slice A m c) l)) (hx : Hid (Val.mk k n s l).fits) (hq : Hid (fewV (.mk k n s l) = false)) : Calls Try.prog 3 #[.agg #[.int .i64 k, .int .i64 n, .string (strB s), .slice A m c]] w (fun e w' => e = .returned (.bool true) ∧ Below w.heap.size w w') := by
  have hB := Below.refl w.heap.size w
  go_enter Try.func3, Try.ntmps3
  go_wp2_with fail
  have hst := ((Below.refl w.heap.size w).alloc (by simp <;> omega) (.cells #[.int .i64 k, .int .i64 n, .string (strB s), .slice A m c] 24))
  have hBo := hB
  have hV := vals_later hV hst
  have hB := hB.trans (hst.mono hB.size)
  have X0 := (Box.newAt (w := w) (n := w.heap.size) [.int .i64 k, .int .i64 n, .string (strB s), .slice A m c] 24 (by simp))
  clear hst
  generalize (w.alloc (.cells #[.int .i64 k, .int .i64 n, .string (strB s), .slice A m c] 24)) = w1 at hB  X0 hV ⊢
  generalize w.heap.size = X0a at X0 ⊢
  refine (sane_any _).mono ?_
  rintro e w2 ⟨rfl, hb⟩
  have X0 := X0.later hb
  have hV := vals_later hV hb
  have hB := hB.trans (hb.mono hB.size)
  clear hb
  have X0c0 : w2.cell? ⟨X0a, 0, none⟩ = some (.int .i64 k) := X0.cell 0
  have X0c1 : w2.cell? ⟨X0a, 1, none⟩ = some (.int .i64 n) := X0.cell 1
  have X0c2 : w2.cell? ⟨X0a, 2, none⟩ = some (.string (strB s)) := X0.cell 2
  have X0c3 : w2.cell? ⟨X0a, 3, none⟩ = some (.slice A m c) := X0.cell 3
  have X0z : X0a < w2.heap.size := X0.lt
  go_wp2_with fail
  clear X0c0 X0c1 X0c2 X0c3 X0z
  have hst := ((Below.refl w2.heap.size w2).alloc (by simp <;> omega) (.cells #[.int .i64 k, .int .i64 n, .string (strB s), .slice A m c] 24))
  have hBo := hB
  have X0o := X0
  have X0 := X0.later hst
  have hV := vals_later hV hst
  have hB := hB.trans (hst.mono hB.size)
  have F := (Box.newAt (w := w2) (n := w2.heap.size) [.int .i64 k, .int .i64 n, .string (strB s), .slice A m c] 24 (by simp))
  clear hst
  generalize (w2.alloc (.cells #[.int .i64 k, .int .i64 n, .string (strB s), .slice A m c] 24)) = w3 at hB X0 F hV ⊢
  generalize w2.heap.size = Fa at F ⊢
  have HF := few_any _ [.mk k n s l] _ _ (one_at F hV.out) ⟨hx.out, trivial⟩ false (Lib.hid (by rw [List.all_cons, hq.out]; rfl))
  go_wp2_with fail
  refine (HF).mono ?_
  rintro e w4 ⟨rfl, hb⟩
  have X0 := X0.later hb
  have F := F.later hb
  have hV := vals_later hV hb
  have hB := hB.trans (hb.mono hB.size)
  clear hb
  clear HF
  clear F
  go_wp2
  go_ret
  exact ⟨rfl, hB⟩

set_option maxRecDepth 100000 in
set_option maxHeartbeats 8000000 in
theorem lawE_go (k n : Int) (s : Bs) (l : List Val) (A : Option Addr) (m c d : Nat) (w : World) (hV : Hid (ValsAt w w.heap.size d (.slice A m c) l)) (hx : Hid (Val.mk k n s l).fits) (hd : Hid (d ≤ 1000)) (hq : Hid (fewV (.mk k n s l) = true)) (hl : Hid ((Val.mk k n s l).enc.length ≤ 79000000)) (T : Bs) (er ch : Int) (ht : Hid (encT (.mk k n s l) = (T, er))) (tn : Nat) (htn : Hid (T.length = tn)) (hch : Hid (chkT (.mk k n s l) = ch)) (htl : tn ≤ 79000000) : Calls Try.prog 3 #[.agg #[.int .i64 k, .int .i64 n, .string (strB s), .slice A m c]] w (fun e w' => e = .returned (.bool true) ∧ Below w.heap.size w w') := by
  have hB := Below.refl w.heap.size w
  go_enter Try.func3, Try.ntmps3
  go_wp2_with fail
  have hst := ((Below.refl w.heap.size w).alloc (by simp <;> omega) (.cells #[.int .i64 k, .int .i64 n, .string (strB s), .slice A m c] 24))
  have hBo := hB
  have hV := vals_later hV hst
  have hB := hB.trans (hst.mono hB.size)
  have X0 := (Box.newAt (w := w) (n := w.heap.size) [.int .i64 k, .int .i64 n, .string (strB s), .slice A m c] 24 (by simp))
  clear hst
  generalize (w.alloc (.cells #[.int .i64 k, .int .i64 n, .string (strB s), .slice A m c] 24)) = w1 at hB  X0 hV ⊢
  generalize w.heap.size = X0a at X0 ⊢
  refine (sane_any _).mono ?_
  rintro e w2 ⟨rfl, hb⟩
  have X0 := X0.later hb
  have hV := vals_later hV hb
  have hB := hB.trans (hb.mono hB.size)
  clear hb
  have X0c0 : w2.cell? ⟨X0a, 0, none⟩ = some (.int .i64 k) := X0.cell 0
  have X0c1 : w2.cell? ⟨X0a, 1, none⟩ = some (.int .i64 n) := X0.cell 1
  have X0c2 : w2.cell? ⟨X0a, 2, none⟩ = some (.string (strB s)) := X0.cell 2
  have X0c3 : w2.cell? ⟨X0a, 3, none⟩ = some (.slice A m c) := X0.cell 3
  have X0z : X0a < w2.heap.size := X0.lt
  go_wp2_with fail
  clear X0c0 X0c1 X0c2 X0c3 X0z
  have hst := ((Below.refl w2.heap.size w2).alloc (by simp <;> omega) (.cells #[.int .i64 k, .int .i64 n, .string (strB s), .slice A m c] 24))
  have hBo := hB
  have X0o := X0
  have X0 := X0.later hst
  have hV := vals_later hV hst
  have hB := hB.trans (hst.mono hB.size)
  have F := (Box.newAt (w := w2) (n := w2.heap.size) [.int .i64 k, .int .i64 n, .string (strB s), .slice A m c] 24 (by simp))
  clear hst
  generalize (w2.alloc (.cells #[.int .i64 k, .int .i64 n, .string (strB s), .slice A m c] 24)) = w3 at hB X0 F hV ⊢
  generalize w2.heap.size = Fa at F ⊢
  have HF := few_any _ [.mk k n s l] _ _ (one_at F hV.out) ⟨hx.out, trivial⟩ true (Lib.hid (by rw [List.all_cons, hq.out]; rfl))
  go_wp2_with fail
  refine (HF).mono ?_
  rintro e w4 ⟨rfl, hb⟩
  have X0 := X0.later hb
  have F := F.later hb
  have hV := vals_later hV hb
  have hB := hB.trans (hb.mono hB.size)
  clear hb
  clear HF
  clear F
  have X0c0 : w4.cell? ⟨X0a, 0, none⟩ = some (.int .i64 k) := X0.cell 0
  have X0c1 : w4.cell? ⟨X0a, 1, none⟩ = some (.int .i64 n) := X0.cell 1
  have X0c2 : w4.cell? ⟨X0a, 2, none⟩ = some (.string (strB s)) := X0.cell 2
  have X0c3 : w4.cell? ⟨X0a, 3, none⟩ = some (.slice A m c) := X0.cell 3
  have X0z : X0a < w4.heap.size := X0.lt
  go_wp2_with fail
  clear X0c0 X0c1 X0c2 X0c3 X0z
  have HE : Calls Try.prog 12 #[.agg #[.int .i64 k, .int .i64 n, .string (strB s), .slice A m c]] w4 (RetEnc (T, er) w4) := by
    have := cEncode_any d hd.out (.mk k n s l) _ w4 hV.out hx.out hl.out
    rw [ht.out] at this
    exact this
  refine HE.mono ?_
  intro e w5 hh
  obtain ⟨A1, c1, rfl, B1, hb⟩ := RetEnc.open hh htn
  clear hh HE
  have X0 := X0.later hb
  have hV := vals_later hV hb
  have hB := hB.trans (hb.mono hB.size)
  clear hb
  have X0c0 : w5.cell? ⟨X0a, 0, none⟩ = some (.int .i64 k) := X0.cell 0
  have X0c1 : w5.cell? ⟨X0a, 1, none⟩ = some (.int .i64 n) := X0.cell 1
  have X0c2 : w5.cell? ⟨X0a, 2, none⟩ = some (.string (strB s)) := X0.cell 2
  have X0c3 : w5.cell? ⟨X0a, 3, none⟩ = some (.slice A m c) := X0.cell 3
  have X0z : X0a < w5.heap.size := X0.lt
  go_wp2_with fail
  clear X0c0 X0c1 X0c2 X0c3 X0z
  have HE : Calls Try.prog 13 #[.agg #[.int .i64 k, .int .i64 n, .string (strB s), .slice A m c]] w5 (RetEnc (T, er) w5) := by
    have := rEncode_any d hd.out (.mk k n s l) _ w5 hV.out hx.out hl.out
    rw [ht.out] at this
    exact this
  refine HE.mono ?_
  intro e w6 hh
  obtain ⟨A2, c2, rfl, B2, hb⟩ := RetEnc.open hh htn
  clear hh HE
  have X0 := X0.later hb
  have hV := vals_later hV hb
  have B1 := by_later B1 hb
  have hB := hB.trans (hb.mono hB.size)
  clear hb
  have X0c0 : w6.cell? ⟨X0a, 0, none⟩ = some (.int .i64 k) := X0.cell 0
  have X0c1 : w6.cell? ⟨X0a, 1, none⟩ = some (.int .i64 n) := X0.cell 1
  have X0c2 : w6.cell? ⟨X0a, 2, none⟩ = some (.string (strB s)) := X0.cell 2
  have X0c3 : w6.cell? ⟨X0a, 3, none⟩ = some (.slice A m c) := X0.cell 3
  have X0z : X0a < w6.heap.size := X0.lt
  go_wp2_with fail
  clear X0c0 X0c1 X0c2 X0c3 X0z
  have HE : Calls Try.prog 14 #[.agg #[.int .i64 k, .int .i64 n, .string (strB s), .slice A m c]] w6 (fun e w' => e = .returned (.tuple #[.int .i64 tn, .int .i64 er]) ∧ Below w6.heap.size w6 w') := by
    have := cSize_any d hd.out (.mk k n s l) _ w6 hV.out hx.out hl.out
    rw [ht.out] at this
    dsimp only at this
    rw [htn.out] at this
    exact this
  go_wp2_with fail
  refine (HE).mono ?_
  rintro e w7 ⟨rfl, hb⟩
  have X0 := X0.later hb
  have hV := vals_later hV hb
  have B1 := by_later B1 hb
  have B2 := by_later B2 hb
  have hB := hB.trans (hb.mono hB.size)
  clear hb
  clear HE
  have X0c0 : w7.cell? ⟨X0a, 0, none⟩ = some (.int .i64 k) := X0.cell 0
  have X0c1 : w7.cell? ⟨X0a, 1, none⟩ = some (.int .i64 n) := X0.cell 1
  have X0c2 : w7.cell? ⟨X0a, 2, none⟩ = some (.string (strB s)) := X0.cell 2
  have X0c3 : w7.cell? ⟨X0a, 3, none⟩ = some (.slice A m c) := X0.cell 3
  have X0z : X0a < w7.heap.size := X0.lt
  go_wp2_with fail
  clear X0c0 X0c1 X0c2 X0c3 X0z
  have HE : Calls Try.prog 15 #[.agg #[.int .i64 k, .int .i64 n, .string (strB s), .slice A m c]] w7 (fun e w' => e = .returned (.tuple #[.int .i64 tn, .int .i64 er]) ∧ Below w7.heap.size w7 w') := by
    have := rSize_any d hd.out (.mk k n s l) _ w7 hV.out hx.out hl.out
    rw [ht.out] at this
    dsimp only at this
    rw [htn.out] at this
    exact this
  go_wp2_with fail
  refine (HE).mono ?_
  rintro e w8 ⟨rfl, hb⟩
  have X0 := X0.later hb
  have hV := vals_later hV hb
  have B1 := by_later B1 hb
  have B2 := by_later B2 hb
  have hB := hB.trans (hb.mono hB.size)
  clear hb
  clear HE
  have v1 := Later.str B1.out
  have v2 := Later.str B2.out
  generalize strB T = st at v1 v2
  have K1 : Hid (∀ z : Later w8, Calls Try.prog 16 #[.agg #[.int .i64 k, .int .i64 n, .string (strB s), .slice A m c]] z.w fun e w' => e = .returned (.int .i64 ch) ∧ Below z.w.heap.size z.w w') := Lib.hid fun z => by
    have := cCheck_any d hd.out (.mk k n s l) _ z.w (hV.out.later z.below)
    rw [hch.out] at this
    exact this
  have K2 : Hid (∀ z : Later w8, Calls Try.prog 17 #[.agg #[.int .i64 k, .int .i64 n, .string (strB s), .slice A m c]] z.w fun e w' => e = .returned (.int .i64 ch) ∧ Below z.w.heap.size z.w w') := Lib.hid fun z => by
    have := rCheck_any d hd.out (.mk k n s l) _ z.w (hV.out.later z.below)
    rw [hch.out] at this
    exact this
  have X0c0 : w8.cell? ⟨X0a, 0, none⟩ = some (.int .i64 k) := X0.cell 0
  have X0c1 : w8.cell? ⟨X0a, 1, none⟩ = some (.int .i64 n) := X0.cell 1
  have X0c2 : w8.cell? ⟨X0a, 2, none⟩ = some (.string (strB s)) := X0.cell 2
  have X0c3 : w8.cell? ⟨X0a, 3, none⟩ = some (.slice A m c) := X0.cell 3
  have X0z : X0a < w8.heap.size := X0.lt
  go_wp2_with fail
  clear X0c0 X0c1 X0c2 X0c3 X0z
  have X0l0 : ∀ zz : Later w8, zz.w.cell? ⟨X0a, 0, none⟩ = some (.int .i64 k) := Later.cell (X0.cell 0) X0.lt
  have X0l1 : ∀ zz : Later w8, zz.w.cell? ⟨X0a, 1, none⟩ = some (.int .i64 n) := Later.cell (X0.cell 1) X0.lt
  have X0l2 : ∀ zz : Later w8, zz.w.cell? ⟨X0a, 2, none⟩ = some (.string (strB s)) := Later.cell (X0.cell 2) X0.lt
  have X0l3 : ∀ zz : Later w8, zz.w.cell? ⟨X0a, 3, none⟩ = some (.slice A m c) := Later.cell (X0.cell 3) X0.lt
  refine wp_region_later (by kernel_rfl) (by kernel_rfl) ?_
  repeat (go_big_quiet_step ((first | (go_at_call 16; with_reducible exact Later.call _ (K1.out _)) | (go_at_call 17; with_reducible exact Later.call _ (K2.out _)))))
  refine wpQuiet_nil ?_
  intro _ hw'
  obtain ⟨yq, hw''⟩ := hw'
  subst hw''
  clear X0l0 X0l1 X0l2 X0l3
  obtain ⟨w9, hz, hb⟩ : ∃ z, yq.w = z ∧ Below w8.heap.size w8 z := ⟨_, rfl, yq.below⟩
  rw [hz]
  clear hz
  have X0 := X0.later hb
  have hV := vals_later hV hb
  have B1 := by_later B1 hb
  have B2 := by_later B2 hb
  have hB := hB.trans (hb.mono hB.size)
  clear hb
  clear v1 v2 K1 K2
  go_wp2
  go_ret
  exact ⟨rfl, hB⟩

theorem law_CodecEncodeSpec (x : Val) (L : Value) (d : Nat) (w : World) (hV : ValsAt w w.heap.size d L x.elems) (hx : x.fits) :
    Calls Try.prog 3 #[.agg #[.int .i64 x.kind, .int .i64 x.num, .string (strB x.str), L]] w (fun e w' => e = .returned (.bool true) ∧ Below w.heap.size w w') := by
  obtain ⟨A, c, rfl, _⟩ := hV.form
  obtain ⟨k, n, s, l⟩ := x
  rcases hq : fewV (.mk k n s l) with _ | _
  · exact lawE_no k n s l A _ c d w hV hx hq
  · obtain ⟨h1, h2⟩ := few_nest hx hq
    have h3 := encT_le (x := .mk k n s l) (by omega)
    exact lawE_go k n s l A _ c 20 w (hV.fit h1) hx (Lib.hid (by decide)) hq (Lib.hid (by omega)) _ _ _ rfl _ rfl rfl h3

set_option maxRecDepth 100000 in
set_option maxHeartbeats 8000000 in
theorem lawS_no (k n : Int) (s : Bs) (l : List Val) (A : Option Addr) (m c : Nat) (k2 n2 : Int) (s2 : Bs) (l2 : List Val) (A2 : Option Addr) (m2 c2 : Nat) (d : Nat) (w : World) (hV : Hid (ValsAt w w.heap.size d (.slice A m c) l)) (hV2 : Hid (ValsAt w w.heap.size d (.slice A2 m2 c2) l2)) (hx : Hid (Val.mk k n s l).fits) (hy : Hid (Val.mk k2 n2 s2 l2).fits) (hq : Hid ((fewV (.mk k n s l) && (fewV (.mk k2 n2 s2 l2) && true)) = false)) : Calls Try.prog 5 #[.agg #[.int .i64 k, .int .i64 n, .string (strB s), .slice A m c], .agg #[.int .i64 k2, .int .i64 n2, .string (strB s2), .slice A2 m2 c2]] w (fun e w' => e = .returned (.bool true) ∧ Below w.heap.size w w') := by
  have hB := Below.refl w.heap.size w
  go_enter Try.func5, Try.ntmps5
  go_wp2_with fail
  have hst := (((Below.refl w.heap.size w).alloc (by simp <;> omega) (.cells #[.int .i64 k, .int .i64 n, .string (strB s), .slice A m c] 24)).alloc (by simp <;> omega) (.cells #[.int .i64 k2, .int .i64 n2, .string (strB s2), .slice A2 m2 c2] 24))
  have hBo := hB
  have hV := vals_later hV hst
  have hV2 := vals_later hV2 hst
  have hB := hB.trans (hst.mono hB.size)
  have X0 := ((Box.newAt (w := w) (n := w.heap.size) [.int .i64 k, .int .i64 n, .string (strB s), .slice A m c] 24 (by simp)).alloc (.cells #[.int .i64 k2, .int .i64 n2, .string (strB s2), .slice A2 m2 c2] 24))
  have Y0 := (Box.newAt (w := (w.alloc (.cells #[.int .i64 k, .int .i64 n, .string (strB s), .slice A m c] 24))) (n := w.heap.size + 1) [.int .i64 k2, .int .i64 n2, .string (strB s2), .slice A2 m2 c2] 24 (by simp))
  clear hst
  generalize ((w.alloc (.cells #[.int .i64 k, .int .i64 n, .string (strB s), .slice A m c] 24)).alloc (.cells #[.int .i64 k2, .int .i64 n2, .string (strB s2), .slice A2 m2 c2] 24)) = w1 at hB  X0 Y0 hV hV2 ⊢
  generalize w.heap.size + 1 = Y0a at X0 Y0 ⊢
  generalize w.heap.size = X0a at X0 Y0 ⊢
  refine (sane_any _).mono ?_
  rintro e w2 ⟨rfl, hb⟩
  have X0 := X0.later hb
  have Y0 := Y0.later hb
  have hV := vals_later hV hb
  have hV2 := vals_later hV2 hb
  have hB := hB.trans (hb.mono hB.size)
  clear hb
  have X0c0 : w2.cell? ⟨X0a, 0, none⟩ = some (.int .i64 k) := X0.cell 0
  have X0c1 : w2.cell? ⟨X0a, 1, none⟩ = some (.int .i64 n) := X0.cell 1
  have X0c2 : w2.cell? ⟨X0a, 2, none⟩ = some (.string (strB s)) := X0.cell 2
  have X0c3 : w2.cell? ⟨X0a, 3, none⟩ = some (.slice A m c) := X0.cell 3
  have X0z : X0a < w2.heap.size := X0.lt
  have Y0c0 : w2.cell? ⟨Y0a, 0, none⟩ = some (.int .i64 k2) := Y0.cell 0
  have Y0c1 : w2.cell? ⟨Y0a, 1, none⟩ = some (.int .i64 n2) := Y0.cell 1
  have Y0c2 : w2.cell? ⟨Y0a, 2, none⟩ = some (.string (strB s2)) := Y0.cell 2
  have Y0c3 : w2.cell? ⟨Y0a, 3, none⟩ = some (.slice A2 m2 c2) := Y0.cell 3
  have Y0z : Y0a < w2.heap.size := Y0.lt
  go_wp2_with fail
  clear X0c0 X0c1 X0c2 X0c3 X0z Y0c0 Y0c1 Y0c2 Y0c3 Y0z
  have hst := ((Below.refl w2.heap.size w2).alloc (by simp <;> omega) (.cells #[.int .i64 k, .int .i64 n, .string (strB s), .slice A m c, .int .i64 k2, .int .i64 n2, .string (strB s2), .slice A2 m2 c2] 24))
  have hBo := hB
  have X0o := X0
  have X0 := X0.later hst
  have Y0o := Y0
  have Y0 := Y0.later hst
  have hV := vals_later hV hst
  have hV2 := vals_later hV2 hst
  have hB := hB.trans (hst.mono hB.size)
  have F := (Box.newAt (w := w2) (n := w2.heap.size) [.int .i64 k, .int .i64 n, .string (strB s), .slice A m c, .int .i64 k2, .int .i64 n2, .string (strB s2), .slice A2 m2 c2] 24 (by simp))
  clear hst
  generalize (w2.alloc (.cells #[.int .i64 k, .int .i64 n, .string (strB s), .slice A m c, .int .i64 k2, .int .i64 n2, .string (strB s2), .slice A2 m2 c2] 24)) = w3 at hB X0 Y0 F hV hV2 ⊢
  generalize w2.heap.size = Fa at F ⊢
  have HF := few_any _ [.mk k n s l, .mk k2 n2 s2 l2] _ _ (two_at F hV.out hV2.out) ⟨hx.out, hy.out, trivial⟩ false (Lib.hid (by rw [List.all_cons, List.all_cons]; exact hq.out))
  go_wp2_with fail
  refine (HF).mono ?_
  rintro e w4 ⟨rfl, hb⟩
  have X0 := X0.later hb
  have Y0 := Y0.later hb
  have F := F.later hb
  have hV := vals_later hV hb
  have hV2 := vals_later hV2 hb
  have hB := hB.trans (hb.mono hB.size)
  clear hb
  clear HF
  clear F
  go_wp2
  go_ret
  exact ⟨rfl, hB⟩

set_option maxRecDepth 100000 in
set_option maxHeartbeats 8000000 in
theorem lawS_go (k n : Int) (s : Bs) (l : List Val) (A : Option Addr) (m c : Nat) (k2 n2 : Int) (s2 : Bs) (l2 : List Val) (A2 : Option Addr) (m2 c2 : Nat) (d : Nat) (w : World) (hV : Hid (ValsAt w w.heap.size d (.slice A m c) l)) (hV2 : Hid (ValsAt w w.heap.size d (.slice A2 m2 c2) l2)) (hx : Hid (Val.mk k n s l).fits) (hy : Hid (Val.mk k2 n2 s2 l2).fits) (hq : Hid ((fewV (.mk k n s l) && (fewV (.mk k2 n2 s2 l2) && true)) = true)) (q : Bool) (hs : Hid ((Val.mk k n s l).same (.mk k2 n2 s2 l2) = q)) : Calls Try.prog 5 #[.agg #[.int .i64 k, .int .i64 n, .string (strB s), .slice A m c], .agg #[.int .i64 k2, .int .i64 n2, .string (strB s2), .slice A2 m2 c2]] w (fun e w' => e = .returned (.bool true) ∧ Below w.heap.size w w') := by
  have hB := Below.refl w.heap.size w
  go_enter Try.func5, Try.ntmps5
  go_wp2_with fail
  have hst := (((Below.refl w.heap.size w).alloc (by simp <;> omega) (.cells #[.int .i64 k, .int .i64 n, .string (strB s), .slice A m c] 24)).alloc (by simp <;> omega) (.cells #[.int .i64 k2, .int .i64 n2, .string (strB s2), .slice A2 m2 c2] 24))
  have hBo := hB
  have hV := vals_later hV hst
  have hV2 := vals_later hV2 hst
  have hB := hB.trans (hst.mono hB.size)
  have X0 := ((Box.newAt (w := w) (n := w.heap.size) [.int .i64 k, .int .i64 n, .string (strB s), .slice A m c] 24 (by simp)).alloc (.cells #[.int .i64 k2, .int .i64 n2, .string (strB s2), .slice A2 m2 c2] 24))
  have Y0 := (Box.newAt (w := (w.alloc (.cells #[.int .i64 k, .int .i64 n, .string (strB s), .slice A m c] 24))) (n := w.heap.size + 1) [.int .i64 k2, .int .i64 n2, .string (strB s2), .slice A2 m2 c2] 24 (by simp))
  clear hst
  generalize ((w.alloc (.cells #[.int .i64 k, .int .i64 n, .string (strB s), .slice A m c] 24)).alloc (.cells #[.int .i64 k2, .int .i64 n2, .string (strB s2), .slice A2 m2 c2] 24)) = w1 at hB  X0 Y0 hV hV2 ⊢
  generalize w.heap.size + 1 = Y0a at X0 Y0 ⊢
  generalize w.heap.size = X0a at X0 Y0 ⊢
  refine (sane_any _).mono ?_
  rintro e w2 ⟨rfl, hb⟩
  have X0 := X0.later hb
  have Y0 := Y0.later hb
  have hV := vals_later hV hb
  have hV2 := vals_later hV2 hb
  have hB := hB.trans (hb.mono hB.size)
  clear hb
  have X0c0 : w2.cell? ⟨X0a, 0, none⟩ = some (.int .i64 k) := X0.cell 0
  have X0c1 : w2.cell? ⟨X0a, 1, none⟩ = some (.int .i64 n) := X0.cell 1
  have X0c2 : w2.cell? ⟨X0a, 2, none⟩ = some (.string (strB s)) := X0.cell 2
  have X0c3 : w2.cell? ⟨X0a, 3, none⟩ = some (.slice A m c) := X0.cell 3
  have X0z : X0a < w2.heap.size := X0.lt
  have Y0c0 : w2.cell? ⟨Y0a, 0, none⟩ = some (.int .i64 k2) := Y0.cell 0
  have Y0c1 : w2.cell? ⟨Y0a, 1, none⟩ = some (.int .i64 n2) := Y0.cell 1
  have Y0c2 : w2.cell? ⟨Y0a, 2, none⟩ = some (.string (strB s2)) := Y0.cell 2
  have Y0c3 : w2.cell? ⟨Y0a, 3, none⟩ = some (.slice A2 m2 c2) := Y0.cell 3
  have Y0z : Y0a < w2.heap.size := Y0.lt
  go_wp2_with fail
  clear X0c0 X0c1 X0c2 X0c3 X0z Y0c0 Y0c1 Y0c2 Y0c3 Y0z
  have hst := ((Below.refl w2.heap.size w2).alloc (by simp <;> omega) (.cells #[.int .i64 k, .int .i64 n, .string (strB s), .slice A m c, .int .i64 k2, .int .i64 n2, .string (strB s2), .slice A2 m2 c2] 24))
  have hBo := hB
  have X0o := X0
  have X0 := X0.later hst
  have Y0o := Y0
  have Y0 := Y0.later hst
  have hV := vals_later hV hst
  have hV2 := vals_later hV2 hst
  have hB := hB.trans (hst.mono hB.size)
  have F := (Box.newAt (w := w2) (n := w2.heap.size) [.int .i64 k, .int .i64 n, .string (strB s), .slice A m c, .int .i64 k2, .int .i64 n2, .string (strB s2), .slice A2 m2 c2] 24 (by simp))
  clear hst
  generalize (w2.alloc (.cells #[.int .i64 k, .int .i64 n, .string (strB s), .slice A m c, .int .i64 k2, .int .i64 n2, .string (strB s2), .slice A2 m2 c2] 24)) = w3 at hB X0 Y0 F hV hV2 ⊢
  generalize w2.heap.size = Fa at F ⊢
  have HF := few_any _ [.mk k n s l, .mk k2 n2 s2 l2] _ _ (two_at F hV.out hV2.out) ⟨hx.out, hy.out, trivial⟩ true (Lib.hid (by rw [List.all_cons, List.all_cons]; exact hq.out))
  go_wp2_with fail
  refine (HF).mono ?_
  rintro e w4 ⟨rfl, hb⟩
  have X0 := X0.later hb
  have Y0 := Y0.later hb
  have F := F.later hb
  have hV := vals_later hV hb
  have hV2 := vals_later hV2 hb
  have hB := hB.trans (hb.mono hB.size)
  clear hb
  clear HF
  clear F
  have K1 : Hid (∀ z : Later w4, Calls Try.prog 21 #[.agg #[.int .i64 k, .int .i64 n, .string (strB s), .slice A m c], .agg #[.int .i64 k2, .int .i64 n2, .string (strB s2), .slice A2 m2 c2]] z.w fun e w' => e = .returned (.bool q) ∧ Below z.w.heap.size z.w w') := Lib.hid fun z => by
    have := SameC.all d (.mk k n s l) (.mk k2 n2 s2 l2) _ _ z.w (hV.out.later z.below) (hV2.out.later z.below)
    rw [hs.out] at this
    exact this
  have K2 : Hid (∀ z : Later w4, Calls Try.prog 20 #[.agg #[.int .i64 k, .int .i64 n, .string (strB s), .slice A m c], .agg #[.int .i64 k2, .int .i64 n2, .string (strB s2), .slice A2 m2 c2]] z.w fun e w' => e = .returned (.bool q) ∧ Below z.w.heap.size z.w w') := Lib.hid fun z => by
    have := SameR.all d (.mk k n s l) (.mk k2 n2 s2 l2) _ _ z.w (hV.out.later z.below) (hV2.out.later z.below)
    rw [hs.out] at this
    exact this
  have K3 : Hid (∀ z : Later w4, Calls Try.prog 21 #[.agg #[.int .i64 k, .int .i64 n, .string (strB s), .slice A m c], .agg #[.int .i64 k, .int .i64 n, .string (strB s), .slice A m c]] z.w fun e w' => e = .returned (.bool true) ∧ Below z.w.heap.size z.w w') := Lib.hid fun z => by
    have := SameC.all d (.mk k n s l) (.mk k n s l) _ _ z.w (hV.out.later z.below) (hV.out.later z.below)
    rw [Val.same_refl] at this
    exact this
  have K4 : Hid (∀ z : Later w4, Calls Try.prog 21 #[.agg #[.int .i64 k2, .int .i64 n2, .string (strB s2), .slice A2 m2 c2], .agg #[.int .i64 k2, .int .i64 n2, .string (strB s2), .slice A2 m2 c2]] z.w fun e w' => e = .returned (.bool true) ∧ Below z.w.heap.size z.w w') := Lib.hid fun z => by
    have := SameC.all d (.mk k2 n2 s2 l2) (.mk k2 n2 s2 l2) _ _ z.w (hV2.out.later z.below) (hV2.out.later z.below)
    rw [Val.same_refl] at this
    exact this
  have X0c0 : w4.cell? ⟨X0a, 0, none⟩ = some (.int .i64 k) := X0.cell 0
  have X0c1 : w4.cell? ⟨X0a, 1, none⟩ = some (.int .i64 n) := X0.cell 1
  have X0c2 : w4.cell? ⟨X0a, 2, none⟩ = some (.string (strB s)) := X0.cell 2
  have X0c3 : w4.cell? ⟨X0a, 3, none⟩ = some (.slice A m c) := X0.cell 3
  have X0z : X0a < w4.heap.size := X0.lt
  have Y0c0 : w4.cell? ⟨Y0a, 0, none⟩ = some (.int .i64 k2) := Y0.cell 0
  have Y0c1 : w4.cell? ⟨Y0a, 1, none⟩ = some (.int .i64 n2) := Y0.cell 1
  have Y0c2 : w4.cell? ⟨Y0a, 2, none⟩ = some (.string (strB s2)) := Y0.cell 2
  have Y0c3 : w4.cell? ⟨Y0a, 3, none⟩ = some (.slice A2 m2 c2) := Y0.cell 3
  have Y0z : Y0a < w4.heap.size := Y0.lt
  go_wp2_with fail
  clear X0c0 X0c1 X0c2 X0c3 X0z Y0c0 Y0c1 Y0c2 Y0c3 Y0z
  have X0l0 : ∀ zz : Later w4, zz.w.cell? ⟨X0a, 0, none⟩ = some (.int .i64 k) := Later.cell (X0.cell 0) X0.lt
  have X0l1 : ∀ zz : Later w4, zz.w.cell? ⟨X0a, 1, none⟩ = some (.int .i64 n) := Later.cell (X0.cell 1) X0.lt
  have X0l2 : ∀ zz : Later w4, zz.w.cell? ⟨X0a, 2, none⟩ = some (.string (strB s)) := Later.cell (X0.cell 2) X0.lt
  have X0l3 : ∀ zz : Later w4, zz.w.cell? ⟨X0a, 3, none⟩ = some (.slice A m c) := Later.cell (X0.cell 3) X0.lt
  have Y0l0 : ∀ zz : Later w4, zz.w.cell? ⟨Y0a, 0, none⟩ = some (.int .i64 k2) := Later.cell (Y0.cell 0) Y0.lt
  have Y0l1 : ∀ zz : Later w4, zz.w.cell? ⟨Y0a, 1, none⟩ = some (.int .i64 n2) := Later.cell (Y0.cell 1) Y0.lt
  have Y0l2 : ∀ zz : Later w4, zz.w.cell? ⟨Y0a, 2, none⟩ = some (.string (strB s2)) := Later.cell (Y0.cell 2) Y0.lt
  have Y0l3 : ∀ zz : Later w4, zz.w.cell? ⟨Y0a, 3, none⟩ = some (.slice A2 m2 c2) := Later.cell (Y0.cell 3) Y0.lt
  refine wp_region_later (by kernel_rfl) (by kernel_rfl) ?_
  repeat (go_big_quiet_step ((first | (go_at_call 21; with_reducible exact Later.call _ (K1.out _)) | (go_at_call 21; with_reducible exact Later.call _ (K3.out _)) | (go_at_call 21; with_reducible exact Later.call _ (K4.out _)) | (go_at_call 20; with_reducible exact Later.call _ (K2.out _)))))
  refine wpQuiet_nil ?_
  intro _ hw'
  obtain ⟨yq, hw''⟩ := hw'
  subst hw''
  clear X0l0 X0l1 X0l2 X0l3 Y0l0 Y0l1 Y0l2 Y0l3
  obtain ⟨w5, hz, hb⟩ : ∃ z, yq.w = z ∧ Below w4.heap.size w4 z := ⟨_, rfl, yq.below⟩
  rw [hz]
  clear hz
  have X0 := X0.later hb
  have Y0 := Y0.later hb
  have hV := vals_later hV hb
  have hV2 := vals_later hV2 hb
  have hB := hB.trans (hb.mono hB.size)
  clear hb
  clear K1 K2 K3 K4
  cases q
  all_goals
    go_wp2
    go_ret
    exact ⟨rfl, hB⟩

theorem law_CodecSameSpec (x y : Val) (L M : Value) (d d2 : Nat) (w : World) (hV : ValsAt w w.heap.size d L x.elems) (hV2 : ValsAt w w.heap.size d2 M y.elems) (hx : x.fits) (hy : y.fits) :
    Calls Try.prog 5 #[.agg #[.int .i64 x.kind, .int .i64 x.num, .string (strB x.str), L], .agg #[.int .i64 y.kind, .int .i64 y.num, .string (strB y.str), M]] w (fun e w' => e = .returned (.bool true) ∧ Below w.heap.size w w') := by
  obtain ⟨A, c, rfl, _⟩ := hV.form
  obtain ⟨A2, c2, rfl, _⟩ := hV2.form
  obtain ⟨k, n, s, l⟩ := x
  obtain ⟨k2, n2, s2, l2⟩ := y
  have h1 := hV.fit (Nat.le_trans hV.nest (Nat.le_max_left d d2))
  have h2 := hV2.fit (Nat.le_trans hV2.nest (Nat.le_max_right d d2))
  rcases hq : (fewV (.mk k n s l) && (fewV (.mk k2 n2 s2 l2) && true)) with _ | _
  · exact lawS_no k n s l A _ c k2 n2 s2 l2 A2 _ c2 _ w h1 h2 hx hy hq
  · exact lawS_go k n s l A _ c k2 n2 s2 l2 A2 _ c2 _ w h1 h2 hx hy hq _ rfl

end Go.Proofs.Ytcokkloaljaanaa
