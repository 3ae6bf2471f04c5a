/- The law JournalSurvives. (Printed by gen_mj.py.) -/
import Derived.Test.YthlidhfahaalgaaQMG
import Derived.Test.YthlidhfahaalgaaQMD
set_option linter.unusedVariables false
set_option linter.unusedSimpArgs false
namespace Go.Proofs.Ythlidhfahaalgaa
open Go.RowKit
attribute [local go_sem ↓ high] app_named cop_named

section
variable {w w' : World} {L : List Nat} {V : Value} {l : List Cr}
theorem cr_later (h : Hid (CrAt w (Out L) V l)) (hb : Below w.heap.size w w') : Hid (CrAt w' (Out L) V l) := Lib.hid (h.out.keep (Keeps.of hb))
theorem cr_set {a : Nat} (ha : a ∈ L) (h : Hid (CrAt w (Out L) V l)) (o : Nat) (u : Value) : Hid (CrAt (w.setCell ⟨a, o, none⟩ u) (Out L) V l) := Lib.hid (h.out.keep (Keeps.set w (a := ⟨a, o, none⟩) (fun hc => hc ha) u))
theorem cr_more {a : Nat} (ha : w.heap.size ≤ a) (h : Hid (CrAt w (Out L) V l)) : Hid (CrAt w (Out (a :: L)) V l) := Lib.hid (h.out.weak fun b hb hl hc => by
  rcases List.mem_cons.1 hc with rfl | hc
  · omega
  · exact hb hc)
theorem rw_less {a : Nat} {V : Value} {l : List Bs} (h : Hid (RwAt w (Out (a :: L)) V l)) : Hid (RwAt w (Out L) V l) := Lib.hid (h.out.weak fun b hb _ hc => hb (List.mem_cons_of_mem _ hc))
theorem dk_less {a : Nat} {Vs Vp : Value} {d : Dk} (h : Hid (DkAt w (Out (a :: L)) Vs Vp d)) : Hid (DkAt w (Out L) Vs Vp d) := Lib.hid (h.out.weak fun b hb _ hc => hb (List.mem_cons_of_mem _ hc))
theorem cr_less {a : Nat} (h : Hid (CrAt w (Out (a :: L)) V l)) : Hid (CrAt w (Out L) V l) := Lib.hid (h.out.weak fun b hb _ hc => hb (List.mem_cons_of_mem _ hc))
theorem InW.less {a : Nat} (h : InW (a :: L) w) : InW L w := fun b hb => h b (List.mem_cons_of_mem _ hb)
theorem restart_dk {S : List Bs} {l : Int} {s : Bool} {Vs Vp : Value} (h : Hid (DkAt w (Out L) Vs Vp ⟨S, [], l, s⟩)) : Hid (DkAt w (Out L) Vs (.slice none 0 0) ⟨S, [], -1, false⟩) := Lib.hid ⟨h.out.sectors, wsAt_nil _ _⟩
end
theorem new_is {n : Nat} (h1 : 1 ≤ n) (h2 : n ≤ 4096) : newT (n : Int) = (⟨List.replicate n zeros, [], -1, false⟩, 0) := by
  rw [newT, if_pos (by omega)]
  rfl
theorem stop_is {S R : List Bs} {n g : Nat} {l k : Int} (h : GoodS S n R g) (hl : -1 ≤ l ∧ l ≤ 65536) (h0 : 0 ≤ k) (h1 : k ≤ 65536) : stopT ⟨S, [], l, false⟩ k = (⟨S, [], k, false⟩, 0) := stop_eq (runs_of (disk_ok h hl) rfl) h0 h1
theorem jnd_start {S R : List Bs} {n g : Nat} (h : GoodS S n R g) : Jnd ⟨R, n, R.length⟩ R [] n := ⟨opened_ok h, by simp⟩

theorem sync_still {S R N : List Bs} {n g : Nat} {J : Jn} (h : GoodS S n R g) (hg : g + 1 ≤ 4294967295) (hJ : Jnd J R N n) : ∃ S' l', GoodS S' n (R ++ N) (g + 1) ∧ syncJ J ⟨S, [], -1, false⟩ = (⟨R ++ N, n, ((R ++ N).length : Nat)⟩, ⟨S', [], l', false⟩, 0) := by
  obtain ⟨ok, rfl⟩ := hJ
  rcases sync_good h hg (l := -1) (by omega) ok with ⟨S', l', h1, _, _, _, _, _, h2⟩ | ⟨h0, _⟩
  · exact ⟨S', l', h1, h2⟩
  · omega
theorem sync_maybe {S R N : List Bs} {n g : Nat} {l : Int} {J : Jn} (h : GoodS S n R g) (hg : g + 1 ≤ 4294967295) (hl : 0 ≤ l ∧ l ≤ 65536) (hJ : Jnd J R N n) : (∃ S' l', GoodS S' n (R ++ N) (g + 1) ∧ syncJ J ⟨S, [], l, false⟩ = (⟨R ++ N, n, ((R ++ N).length : Nat)⟩, ⟨S', [], l', false⟩, 0)) ∨ ∃ S' m, m < N.length ∧ GoodS S' n (R ++ N.take m) (g + 1) ∧ syncJ J ⟨S, [], l, false⟩ = (Jn.zero, ⟨S', [], 0, true⟩, 40) := by
  obtain ⟨ok, rfl⟩ := hJ
  rcases sync_good h hg (l := l) (by omega) ok with ⟨S', l', h1, _, _, _, _, _, h2⟩ | ⟨_, S', m, h1, h2, h3⟩
  · exact .inl ⟨S', l', h1, h2⟩
  · exact .inr ⟨S', m, h1, h2, h3⟩
theorem take_part {R N : List Bs} {m : Nat} : (R ++ N).take (R ++ N.take m).length = R ++ N.take m := by
  have e : R ++ N = (R ++ N.take m) ++ N.drop m := by rw [List.append_assoc, List.take_append_drop]
  rw [e]
  exact List.take_left' rfl

set_option maxRecDepth 100000 in
set_option maxHeartbeats 8000000 in
theorem lawV_0 (s : Int) (Ac : Option Addr) (n cc : Nat) (w : World) (hn8 : 8 < n) : Calls Try.prog 9 #[.int .u8 s, .slice Ac n cc] w (fun e w' => e = .returned (.bool true) ∧ Below w.heap.size w w') := by
  have hB := Below.refl w.heap.size w
  have hL := InW.nil w
  go_enter Try.func9, Try.ntmps9
  go_wp2_with fail
  refine (jSane_any _).mono ?_
  rintro e w1 ⟨rfl, hb⟩
  replace hB := hB.trans (hb.mono hB.size)
  replace hL := hL.later hb.size
  clear hb
  have hn9 : decide ((n : Int) > 8) = true := decide_eq_true (by omega)
  go_wp2
  go_ret
  exact ⟨rfl, hB⟩

set_option maxRecDepth 100000 in
set_option maxHeartbeats 16000000 in
theorem lawV (s : Nat) (sc : List Cr) (Ac : Option Addr) (n cc : Nat) (w : World) (hC : Hid (CrAt w (Out []) (.slice Ac n cc) sc)) (hn : Hid (sc.length = n)) (hs : s < 256) (hn8 : n ≤ 8) (hrl : Hid (∀ x ∈ sc, ∀ b ∈ x.records, b.length ≤ 140737488351232)) : Calls Try.prog 9 #[.int .u8 (s : Int), .slice Ac n cc] w (fun e w' => e = .returned (.bool true) ∧ Below w.heap.size w w') := by
  have hB := Below.refl w.heap.size w
  have hL := InW.nil w
  go_enter Try.func9, Try.ntmps9
  go_wp2_with fail
  refine (jSane_any _).mono ?_
  rintro e w1 ⟨rfl, hb⟩
  replace hC := cr_later hC hb
  replace hB := hB.trans (hb.mono hB.size)
  replace hL := hL.later hb.size
  clear hb
  have hn9 : decide ((n : Int) > 8) = false := decide_eq_false (by omega)
  obtain ⟨nn, hnn⟩ : ∃ m, s % 30 + 1 = m := ⟨_, rfl⟩
  have hnn1 : 1 ≤ nn := by omega
  have hnn2 : nn ≤ 30 := by omega
  have hw8 : (s : Int) % 30 + 1 = (nn : Int) := by omega
  have HNEW : Hid (newT ((s : Int) % 30 + 1) = (⟨List.replicate nn zeros, [], -1, false⟩, 0)) := Lib.hid (by rw [hw8]; exact new_is hnn1 (by omega))
  have HG0 := Lib.hid (new_good hnn1 (by omega : nn ≤ 4096))
  clear hw8 hnn
  go_wp2_with fail
  refine (dNew_any ((s : Int) % 30 + 1) (Out []) _).mono ?_
  rintro e w2 hh
  obtain ⟨As, cs, Ap, cp, rfl, hD, hb⟩ := RetDk.is hh hL HNEW (ns := nn) (np := 0) (dl := -1) (ds := false) (Lib.hid List.length_replicate) rfl rfl rfl
  replace hC := cr_later hC hb
  replace hB := hB.trans (hb.mono hB.size)
  replace hL := hL.later hb.size
  clear hb
  go_wp2_with fail
  have hst := (Below.refl w2.heap.size w2).alloc (Nat.le_refl _) (.cells #[.slice As nn cs, .slice Ap 0 cp, .int .i64 (-1), .bool false] 25)
  have hg0 : w.heap.size ≤ w2.heap.size := hB.size
  replace hC := cr_more (a := w2.heap.size) (Nat.le_refl _) hC
  replace hC := cr_later hC hst
  replace hD := dk_more (a := w2.heap.size) (Nat.le_refl _) hD
  replace hD := dk_later hD hst
  replace hL := hL.later hst.size
  replace hL := hL.cons (a := w2.heap.size) (by simp)
  replace hB := hB.trans (hst.mono hB.size)
  have X := Box.new w2 [.slice As nn cs, .slice Ap 0 cp, .int .i64 (-1), .bool false] 25
  have hzX : Hid ((w2.alloc (.cells #[.slice As nn cs, .slice Ap 0 cp, .int .i64 (-1), .bool false] 25)).heap.size = w2.heap.size + 1) := Lib.hid (by simp)
  clear hst
  generalize w2.alloc (.cells #[.slice As nn cs, .slice Ap 0 cp, .int .i64 (-1), .bool false] 25) = w3 at hB hL hzX X hC hD ⊢
  generalize hga : w2.heap.size = Xa at hzX X hL hC hD ⊢
  have gX : w.heap.size ≤ Xa := by rw [← hga]; exact hg0
  clear hg0
  clear hga
  clear hzX
  go_loopw [7, 40] (fun v7 i wr => ∃ (k : Nat) (S R : List Bs) (gg r : Nat) (As : Option Addr) (cs : Nat) (Ap : Option Addr) (cp : Nat) (A7 : Option Addr) (c7 : Nat), k ≤ n ∧ i = .int .i64 (k : Int) ∧ v7 = .slice A7 r c7 ∧ Hid (GoodS S nn R gg) ∧ Hid (gg ≤ k) ∧ Hid (R.length = r) ∧ Box wr Xa [.slice As nn cs, .slice Ap 0 cp, .int .i64 (-1), .bool false] ∧ Hid (DkAt wr (Out [Xa]) (.slice As nn cs) (.slice Ap 0 cp) ⟨S, [], -1, false⟩) ∧ Hid (RwAt wr (Out [Xa]) (.slice A7 r c7) R) ∧ Hid (CrAt wr (Out [Xa]) (.slice Ac n cc) sc) ∧ InW [Xa] wr ∧ Below w.heap.size w wr) (fun _ i _ => n - (intOf i).toNat)
  case atStart => exact ⟨0, _, [], 0, 0, As, cs, Ap, cp, none, 0, Nat.zero_le _, rfl, rfl, HG0, Nat.zero_le _, rfl, X, hD, nil_rw _ _, hC, hL, hB⟩
  case round =>
    clear X hD hC hL hB HG0 HNEW
    obtain ⟨k, S, R, gg, r, As, cs, Ap, cp, A7, c7, hk, rfl, rfl, hG, hgk, hr, X, hD, h7, hC, hL, hB⟩ := hrel
    have HOP : Hid (openT ⟨S, [], -1, false⟩ = (⟨R, nn, R.length⟩, 0)) := Lib.hid (open_good hG.out (by omega))
    have HJ1 : Hid (JnIs ⟨R, nn, R.length⟩ r nn r) := Lib.hid ⟨hr.out, rfl, by rw [← hr.out]⟩
    have hdi : Hid (DkIs ⟨S, [], -1, false⟩ (-1) false) := Lib.hid ⟨rfl, rfl⟩
    rcases Nat.lt_or_ge k n with hlt | hge
    rotate_left
    · obtain rfl : k = n := by omega
      have hkn : decide ((k : Int) < (k : Int)) = false := decide_eq_false (by omega)
      have Xc0 : wr.cell? ⟨Xa, 0, none⟩ = some (.slice As nn cs) := X.cell 0
      have Xc1 : wr.cell? ⟨Xa, 1, none⟩ = some (.slice Ap 0 cp) := X.cell 1
      have Xc2 : wr.cell? ⟨Xa, 2, none⟩ = some (.int .i64 (-1)) := X.cell 2
      have Xc3 : wr.cell? ⟨Xa, 3, none⟩ = some (.bool false) := X.cell 3
      have Xz : Xa < wr.heap.size := X.lt
      go_wp2_with fail
      clear Xc0 Xc1 Xc2 Xc3 Xz
      refine (jOpen_at hD hdi).mono ?_
      rintro e w4 hh
      obtain ⟨A21, c21, rfl, R21, hb⟩ := RetJn.is hh hL HOP HJ1
      replace X := X.later hb
      replace hD := dk_later hD hb
      replace h7 := rw_later h7 hb
      replace hC := cr_later hC hb
      replace hB := hB.trans (hb.mono hB.size)
      replace hL := hL.later hb.size
      clear hb
      have hr9 : r ≤ 9223372036854775807 := by have h := h7.out.caps; omega
      go_wp2_with fail
      have hst := (Below.refl w4.heap.size w4).alloc (Nat.le_refl _) (.cells #[.slice A21 r c21, .int .i64 nn, .int .i64 r] 29)
      have nXZ21 : Xa ≠ w4.heap.size := by have := X.lt; omega
      replace X := X.later hst
      replace hD := dk_later hD hst
      replace h7 := rw_later h7 hst
      replace hC := cr_later hC hst
      replace R21 := rw_later R21 hst
      replace hL := hL.later hst.size
      replace hB := hB.trans (hst.mono hB.size)
      have Z21 := Box.new w4 [.slice A21 r c21, .int .i64 nn, .int .i64 r] 29
      have hzZ21 : Hid ((w4.alloc (.cells #[.slice A21 r c21, .int .i64 nn, .int .i64 r] 29)).heap.size = w4.heap.size + 1) := Lib.hid (by simp)
      clear hst
      generalize w4.alloc (.cells #[.slice A21 r c21, .int .i64 nn, .int .i64 r] 29) = w5 at hB hL hzZ21 Z21 X hD h7 hC R21 ⊢
      generalize hga : w4.heap.size = Z21a at hzZ21 Z21 nXZ21 ⊢
      clear hga
      refine (jRSameRecs_any R R _ _ _ _ _ _ (Out [Xa]) (Out [Xa]) _ R21 h7 hr hr hr9 hr9 true (Lib.hid (decide_eq_true rfl))).mono ?_
      rintro e w6 ⟨rfl, hb⟩
      replace X := X.later hb
      replace Z21 := Z21.later hb
      replace hD := dk_later hD hb
      replace h7 := rw_later h7 hb
      replace hC := cr_later hC hb
      replace R21 := rw_later R21 hb
      replace hB := hB.trans (hb.mono hB.size)
      replace hL := hL.later hb.size
      clear hb
      clear HOP HJ1 hdi
      go_wp2
      go_ret
      exact ⟨rfl, hB⟩
    have hkn : decide ((k : Int) < (n : Int)) = true := decide_eq_true (by omega)
    have i0 : (0 : Int) ≤ (k : Int) := by omega
    have i1 : (k : Int) < (n : Int) := by omega
    obtain ⟨cb, co, Ar, cr, rfl, hcL, hcz, hc0, hc1, hc2, hcr⟩ := hC.out.cell (k := k) (by rw [hn.out]; exact hlt)
    obtain ⟨crs, hcrs⟩ : ∃ x, sc[k]'(by rw [hn.out]; exact hlt) = x := ⟨_, rfl⟩
    rw [hcrs] at hc0 hc1 hc2 hcr
    have hbl := Lib.hid (hrl.out crs (by rw [← hcrs]; exact List.getElem_mem _))
    clear hcrs
    obtain ⟨bs, stp, lft⟩ := crs
    dsimp only at hc0 hc1 hc2 hcr hbl
    obtain ⟨nr, hnr⟩ : ∃ x, bs.length = x := ⟨_, rfl⟩
    rw [hnr] at hc0 hcr
    replace hnr := Lib.hid hnr
    have hcr := Lib.hid hcr
    have Xc0 : wr.cell? ⟨Xa, 0, none⟩ = some (.slice As nn cs) := X.cell 0
    have Xc1 : wr.cell? ⟨Xa, 1, none⟩ = some (.slice Ap 0 cp) := X.cell 1
    have Xc2 : wr.cell? ⟨Xa, 2, none⟩ = some (.int .i64 (-1)) := X.cell 2
    have Xc3 : wr.cell? ⟨Xa, 3, none⟩ = some (.bool false) := X.cell 3
    have Xz : Xa < wr.heap.size := X.lt
    go_wp2_with fail
    clear Xc0 Xc1 Xc2 Xc3 Xz
    have hst := (Below.refl wr.heap.size wr).alloc (Nat.le_refl _) (.cells #[.slice Ar nr cr, .bool stp, .int .u8 (lft.toNat : Int)] 55)
    have nXC : Xa ≠ wr.heap.size := by have := X.lt; omega
    replace X := X.later hst
    replace hD := dk_later hD hst
    replace h7 := rw_later h7 hst
    replace hC := cr_later hC hst
    replace hcr := rw_later hcr hst
    replace hL := hL.later hst.size
    replace hB := hB.trans (hst.mono hB.size)
    have C := Box.new wr [.slice Ar nr cr, .bool stp, .int .u8 (lft.toNat : Int)] 55
    have hzC : Hid ((wr.alloc (.cells #[.slice Ar nr cr, .bool stp, .int .u8 (lft.toNat : Int)] 55)).heap.size = wr.heap.size + 1) := Lib.hid (by simp)
    clear hst
    generalize wr.alloc (.cells #[.slice Ar nr cr, .bool stp, .int .u8 (lft.toNat : Int)] 55) = w7 at hB hL hzC C X hD h7 hC hcr ⊢
    generalize hga : wr.heap.size = Ca at hzC C nXC ⊢
    clear hga
    clear hzC hc0 hc1 hc2 hcz hcL
    refine (jFew_at hcr hnr).mono ?_
    rintro e w8 ⟨t, rfl, ht, hb⟩
    replace X := X.later hb
    replace C := C.later hb
    replace hD := dk_later hD hb
    replace h7 := rw_later h7 hb
    replace hC := cr_later hC hb
    replace hcr := rw_later hcr hb
    replace hB := hB.trans (hb.mono hB.size)
    replace hL := hL.later hb.size
    clear hb
    clear ht
    rcases t with _ | _
    · go_wp2
      go_ret
      exact ⟨rfl, hB⟩
    have Xc0 : w8.cell? ⟨Xa, 0, none⟩ = some (.slice As nn cs) := X.cell 0
    have Xc1 : w8.cell? ⟨Xa, 1, none⟩ = some (.slice Ap 0 cp) := X.cell 1
    have Xc2 : w8.cell? ⟨Xa, 2, none⟩ = some (.int .i64 (-1)) := X.cell 2
    have Xc3 : w8.cell? ⟨Xa, 3, none⟩ = some (.bool false) := X.cell 3
    have Xz : Xa < w8.heap.size := X.lt
    go_wp2_with fail
    clear Xc0 Xc1 Xc2 Xc3 Xz
    refine (jOpen_at hD hdi).mono ?_
    rintro e w9 hh
    obtain ⟨A10, c10, rfl, R10, hb⟩ := RetJn.is hh hL HOP HJ1
    replace X := X.later hb
    replace C := C.later hb
    replace hD := dk_later hD hb
    replace h7 := rw_later h7 hb
    replace hC := cr_later hC hb
    replace hcr := rw_later hcr hb
    replace hB := hB.trans (hb.mono hB.size)
    replace hL := hL.later hb.size
    clear hb
    have hr9 : r ≤ 9223372036854775807 := by have h := h7.out.caps; omega
    go_wp2_with fail
    have hst := (Below.refl w9.heap.size w9).alloc (Nat.le_refl _) (.cells #[.slice A10 r c10, .int .i64 nn, .int .i64 r] 29)
    have nXLb : Xa ≠ w9.heap.size := by have := X.lt; omega
    have nCLb : Ca ≠ w9.heap.size := by have := C.lt; omega
    have hg0 : w.heap.size ≤ w9.heap.size := hB.size
    replace X := X.later hst
    replace C := C.later hst
    replace hD := dk_more (a := w9.heap.size) (Nat.le_refl _) hD
    replace hD := dk_later hD hst
    replace h7 := rw_more (a := w9.heap.size) (Nat.le_refl _) h7
    replace h7 := rw_later h7 hst
    replace hC := cr_more (a := w9.heap.size) (Nat.le_refl _) hC
    replace hC := cr_later hC hst
    replace hcr := rw_more (a := w9.heap.size) (Nat.le_refl _) hcr
    replace hcr := rw_later hcr hst
    replace R10 := rw_more (a := w9.heap.size) (Nat.le_refl _) R10
    replace R10 := rw_later R10 hst
    replace hL := hL.later hst.size
    replace hL := hL.cons (a := w9.heap.size) (by simp)
    replace hB := hB.trans (hst.mono hB.size)
    have Lb := Box.new w9 [.slice A10 r c10, .int .i64 nn, .int .i64 r] 29
    have hzLb : Hid ((w9.alloc (.cells #[.slice A10 r c10, .int .i64 nn, .int .i64 r] 29)).heap.size = w9.heap.size + 1) := Lib.hid (by simp)
    clear hst
    generalize w9.alloc (.cells #[.slice A10 r c10, .int .i64 nn, .int .i64 r] 29) = w10 at hB hL hzLb Lb X C hD h7 hC hcr R10 ⊢
    generalize hga : w9.heap.size = Lba at hzLb Lb nXLb nCLb hL hD h7 hC hcr R10 ⊢
    have gLb : w.heap.size ≤ Lba := by rw [← hga]; exact hg0
    clear hg0
    clear hga
    refine (jRSameRecs_any R R _ _ _ _ _ _ (Out _) (Out _) _ R10 h7 hr hr hr9 hr9 true (Lib.hid (decide_eq_true rfl))).mono ?_
    rintro e w11 ⟨rfl, hb⟩
    replace X := X.later hb
    replace C := C.later hb
    replace Lb := Lb.later hb
    replace hD := dk_later hD hb
    replace h7 := rw_later h7 hb
    replace hC := cr_later hC hb
    replace hcr := rw_later hcr hb
    replace R10 := rw_later R10 hb
    replace hB := hB.trans (hb.mono hB.size)
    replace hL := hL.later hb.size
    clear hb
    clear HOP HJ1
    have Cc0 : w11.cell? ⟨Ca, 0, none⟩ = some (.slice Ar nr cr) := C.cell 0
    have Cc1 : w11.cell? ⟨Ca, 1, none⟩ = some (.bool stp) := C.cell 1
    have Cc2 : w11.cell? ⟨Ca, 2, none⟩ = some (.int .u8 (lft.toNat : Int)) := C.cell 2
    have Cz : Ca < w11.heap.size := C.lt
    have Lbc0 : w11.cell? ⟨Lba, 0, none⟩ = some (.slice A10 r c10) := Lb.cell 0
    have Lbc1 : w11.cell? ⟨Lba, 1, none⟩ = some (.int .i64 nn) := Lb.cell 1
    have Lbc2 : w11.cell? ⟨Lba, 2, none⟩ = some (.int .i64 r) := Lb.cell 2
    have Lbz : Lba < w11.heap.size := Lb.lt
    go_wp2_with fail
    clear Cc0 Cc1 Cc2 Cz Lbc0 Lbc1 Lbc2 Lbz
    have hr7 := hr.out
    have hnr9 : nr ≤ 9223372036854775807 := by have h := hcr.out.caps; omega
    clear hzLb
    go_loopw [74] (fun j wq => ∃ (q m : Nat) (N : List Bs) (J : Jn) (A : Option Addr) (c : Nat), q ≤ nr ∧ j = .int .i64 (q : Int) ∧ Hid (Jnd J R N nn) ∧ Hid (r + N.length = m) ∧ Box wq Lba [.slice A m c, .int .i64 nn, .int .i64 r] ∧ Hid (RwAt wq (Out [Lba, Xa]) (.slice A m c) J.records) ∧ Box wq Xa [.slice As nn cs, .slice Ap 0 cp, .int .i64 (-1), .bool false] ∧ Hid (DkAt wq (Out [Lba, Xa]) (.slice As nn cs) (.slice Ap 0 cp) ⟨S, [], -1, false⟩) ∧ Hid (RwAt wq (Out [Lba, Xa]) (.slice A7 r c7) R) ∧ Hid (CrAt wq (Out [Lba, Xa]) (.slice (some ⟨cb, co, none⟩) n cc) sc) ∧ Hid (RwAt wq (Out [Lba, Xa]) (.slice Ar nr cr) bs) ∧ Box wq Ca [.slice Ar nr cr, .bool stp, .int .u8 (lft.toNat : Int)] ∧ InW [Lba, Xa] wq ∧ Below w.heap.size w wq) (fun j _ => nr - (intOf j).toNat)
    case atStart => exact ⟨0, r, [], _, A10, c10, Nat.zero_le _, rfl, Lib.hid (jnd_start hG.out), rfl, Lb, R10, X, hD, h7, hC, hcr, C, hL, hB⟩
    case round =>
      clear Lb R10 X hD h7 hC hcr C hL hB
      obtain ⟨q, m, N, J, A, c, hq, rfl, hJ, hm, Lb, hR, X, hD, h7, hC, hcr, C, hL, hB⟩ := hrel
      have hJs : Hid (sumB J.records ≤ 4194304) := Lib.hid (ok_sum hJ.out.ok)
      have hJi : Hid (JnIs J m nn r) := Lib.hid (by have := hJ.out.jn; rwa [hr.out, hm.out] at this)
      rcases Nat.lt_or_ge q nr with hqlt | hqge
      rotate_left
      · obtain rfl : nr = q := by omega
        have hqn : decide ((nr : Int) < (nr : Int)) = false := decide_eq_false (by omega)
        have hmr : ¬ (m < r) := by have := hm.out; omega
        have hgg : gg + 1 ≤ 4294967295 := by have := hgk.out; omega
        have Cc0 : wr.cell? ⟨Ca, 0, none⟩ = some (.slice Ar nr cr) := C.cell 0
        have Cc1 : wr.cell? ⟨Ca, 1, none⟩ = some (.bool stp) := C.cell 1
        have Cc2 : wr.cell? ⟨Ca, 2, none⟩ = some (.int .u8 (lft.toNat : Int)) := C.cell 2
        have Cz : Ca < wr.heap.size := C.lt
        have Lbc0 : wr.cell? ⟨Lba, 0, none⟩ = some (.slice A m c) := Lb.cell 0
        have Lbc1 : wr.cell? ⟨Lba, 1, none⟩ = some (.int .i64 nn) := Lb.cell 1
        have Lbc2 : wr.cell? ⟨Lba, 2, none⟩ = some (.int .i64 r) := Lb.cell 2
        have Lbz : Lba < wr.heap.size := Lb.lt
        go_upto_region 26 with fail
        rcases stp with _ | _
        clear Cc0 Cc1 Cc2 Cz Lbc0 Lbc1 Lbc2 Lbz
        · obtain ⟨S', l', hG2, hsy⟩ := sync_still hG.out hgg hJ.out
          replace hG2 := Lib.hid hG2
          have HSY := Lib.hid hsy
          clear hsy
          have hdi2 := hdi
          have hns2 : Hid ((⟨S, [], -1, false⟩ : Dk).sectors.length = nn) := Lib.hid hG.out.len
          have hJm : Hid ((R ++ N).length = m) := Lib.hid (by rw [List.length_append, hr.out, hm.out])
          have hj2 : Hid (JnIs ⟨R ++ N, nn, ((R ++ N).length : Nat)⟩ m nn m) := Lib.hid ⟨hJm.out, rfl, by rw [← hJm.out]⟩
          have Xc0 : wr.cell? ⟨Xa, 0, none⟩ = some (.slice As nn cs) := X.cell 0
          have Xc1 : wr.cell? ⟨Xa, 1, none⟩ = some (.slice Ap 0 cp) := X.cell 1
          have Xc2 : wr.cell? ⟨Xa, 2, none⟩ = some (.int .i64 (-1)) := X.cell 2
          have Xc3 : wr.cell? ⟨Xa, 3, none⟩ = some (.bool false) := X.cell 3
          have Xz : Xa < wr.heap.size := X.lt
          have Lbc0 : wr.cell? ⟨Lba, 0, none⟩ = some (.slice A m c) := Lb.cell 0
          have Lbc1 : wr.cell? ⟨Lba, 1, none⟩ = some (.int .i64 nn) := Lb.cell 1
          have Lbc2 : wr.cell? ⟨Lba, 2, none⟩ = some (.int .i64 r) := Lb.cell 2
          have Lbz : Lba < wr.heap.size := Lb.lt
          have Cc0 : wr.cell? ⟨Ca, 0, none⟩ = some (.slice Ar nr cr) := C.cell 0
          have Cc1 : wr.cell? ⟨Ca, 1, none⟩ = some (.bool false) := C.cell 1
          have Cc2 : wr.cell? ⟨Ca, 2, none⟩ = some (.int .u8 (lft.toNat : Int)) := C.cell 2
          have Cz : Ca < wr.heap.size := C.lt
          go_wp2_with fail
          clear Xc0 Xc1 Xc2 Xc3 Xz Lbc0 Lbc1 Lbc2 Lbz Cc0 Cc1 Cc2 Cz
          refine (jSync_at hR hJi hJs hD hdi2 hns2 (Lib.hid rfl)).mono ?_
          rintro e w12 hh
          obtain ⟨A2, c2, S2, p2, P2, q2, rfl, R2, E2, hb⟩ := RetJD.is hh hL HSY hj2 (ns := nn) (np := 0) (dl := l') (ds := false) (Lib.hid hG2.out.len) rfl rfl rfl
          replace X := X.later hb
          replace C := C.later hb
          replace Lb := Lb.later hb
          replace hD := dk_later hD hb
          replace h7 := rw_later h7 hb
          replace hC := cr_later hC hb
          replace hcr := rw_later hcr hb
          replace hR := rw_later hR hb
          replace hB := hB.trans (hb.mono hB.size)
          replace hL := hL.later hb.size
          clear hb
          have hm9 : m ≤ 9223372036854775807 := by have h := hR.out.caps; omega
          have Lbc0 : w12.cell? ⟨Lba, 0, none⟩ = some (.slice A m c) := Lb.cell 0
          have Lbc1 : w12.cell? ⟨Lba, 1, none⟩ = some (.int .i64 nn) := Lb.cell 1
          have Lbc2 : w12.cell? ⟨Lba, 2, none⟩ = some (.int .i64 r) := Lb.cell 2
          have Lbz : Lba < w12.heap.size := Lb.lt
          go_wp2_with fail
          clear Lbc0 Lbc1 Lbc2 Lbz
          have hst := (Below.refl w12.heap.size w12).alloc (Nat.le_refl _) (.cells #[.slice A2 m c2, .int .i64 nn, .int .i64 m] 29)
          have nXY : Xa ≠ w12.heap.size := by have := X.lt; omega
          have nLbY : Lba ≠ w12.heap.size := by have := Lb.lt; omega
          replace X := X.later hst
          replace C := C.later hst
          replace Lb := Lb.later hst
          replace hD := dk_later hD hst
          replace h7 := rw_later h7 hst
          replace hC := cr_later hC hst
          replace hcr := rw_later hcr hst
          replace hR := rw_later hR hst
          replace R2 := rw_later R2 hst
          replace E2 := dk_later E2 hst
          replace hL := hL.later hst.size
          replace hB := hB.trans (hst.mono hB.size)
          have Y := Box.new w12 [.slice A2 m c2, .int .i64 nn, .int .i64 m] 29
          have hzY : Hid ((w12.alloc (.cells #[.slice A2 m c2, .int .i64 nn, .int .i64 m] 29)).heap.size = w12.heap.size + 1) := Lib.hid (by simp)
          clear hst
          generalize w12.alloc (.cells #[.slice A2 m c2, .int .i64 nn, .int .i64 m] 29) = w13 at hB hL hzY Y X C Lb hD h7 hC hcr hR R2 E2 ⊢
          generalize hga : w12.heap.size = Ya at hzY Y nXY nLbY ⊢
          clear hga
          rw [← hzY.out]
          have hst := (Below.refl w13.heap.size w13).alloc (Nat.le_refl _) (.cells #[.slice S2 nn p2, .slice P2 0 q2, .int .i64 l', .bool false] 25)
          have nXZ : Xa ≠ w13.heap.size := by have := X.lt; omega
          have nLbZ : Lba ≠ w13.heap.size := by have := Lb.lt; omega
          replace X := X.later hst
          replace C := C.later hst
          replace Lb := Lb.later hst
          replace Y := Y.later hst
          replace hD := dk_later hD hst
          replace h7 := rw_later h7 hst
          replace hC := cr_later hC hst
          replace hcr := rw_later hcr hst
          replace hR := rw_later hR hst
          replace R2 := rw_later R2 hst
          replace E2 := dk_later E2 hst
          replace hL := hL.later hst.size
          replace hB := hB.trans (hst.mono hB.size)
          have Z := Box.new w13 [.slice S2 nn p2, .slice P2 0 q2, .int .i64 l', .bool false] 25
          have hzZ : Hid ((w13.alloc (.cells #[.slice S2 nn p2, .slice P2 0 q2, .int .i64 l', .bool false] 25)).heap.size = w13.heap.size + 1) := Lib.hid (by simp)
          clear hst
          generalize w13.alloc (.cells #[.slice S2 nn p2, .slice P2 0 q2, .int .i64 l', .bool false] 25) = w14 at hB hL hzZ Z X C Lb Y hD h7 hC hcr hR R2 E2 ⊢
          generalize hga : w13.heap.size = Za at hzZ Z nXZ nLbZ ⊢
          clear hga
          refine (jRSameRecs_any (R ++ N) J.records _ _ _ _ _ _ (Out _) (Out _) _ R2 hR hJm (Lib.hid hJi.out.len) hm9 hm9 true (Lib.hid (decide_eq_true (by rw [hJ.out.is])))).mono ?_
          rintro e w15 ⟨rfl, hb⟩
          replace X := X.later hb
          replace C := C.later hb
          replace Lb := Lb.later hb
          replace Y := Y.later hb
          replace Z := Z.later hb
          replace hD := dk_later hD hb
          replace h7 := rw_later h7 hb
          replace hC := cr_later hC hb
          replace hcr := rw_later hcr hb
          replace hR := rw_later hR hb
          replace R2 := rw_later R2 hb
          replace E2 := dk_later E2 hb
          replace hB := hB.trans (hb.mono hB.size)
          replace hL := hL.later hb.size
          clear hb
          have Lbc0 : w15.cell? ⟨Lba, 0, none⟩ = some (.slice A m c) := Lb.cell 0
          have Lbc1 : w15.cell? ⟨Lba, 1, none⟩ = some (.int .i64 nn) := Lb.cell 1
          have Lbc2 : w15.cell? ⟨Lba, 2, none⟩ = some (.int .i64 r) := Lb.cell 2
          have Lbz : Lba < w15.heap.size := Lb.lt
          have Zc0 : w15.cell? ⟨Za, 0, none⟩ = some (.slice S2 nn p2) := Z.cell 0
          have Zc1 : w15.cell? ⟨Za, 1, none⟩ = some (.slice P2 0 q2) := Z.cell 1
          have Zc2 : w15.cell? ⟨Za, 2, none⟩ = some (.int .i64 l') := Z.cell 2
          have Zc3 : w15.cell? ⟨Za, 3, none⟩ = some (.bool false) := Z.cell 3
          have Zz : Za < w15.heap.size := Z.lt
          go_wp2_with fail
          clear Lbc0 Lbc1 Lbc2 Lbz Zc0 Zc1 Zc2 Zc3 Zz
          refine (dRestart_eq _ _ _ _ _ _ _).mono ?_
          rintro e w16 ⟨rfl, hb⟩
          replace X := X.later hb
          replace C := C.later hb
          replace Lb := Lb.later hb
          replace Y := Y.later hb
          replace Z := Z.later hb
          replace hD := dk_later hD hb
          replace h7 := rw_later h7 hb
          replace hC := cr_later hC hb
          replace hcr := rw_later hcr hb
          replace hR := rw_later hR hb
          replace R2 := rw_later R2 hb
          replace E2 := dk_later E2 hb
          replace hB := hB.trans (hb.mono hB.size)
          replace hL := hL.later hb.size
          clear hb
          clear Y Z
          replace E2 := restart_dk E2
          have Xc0 : w16.cell? ⟨Xa, 0, none⟩ = some (.slice As nn cs) := X.cell 0
          have Xc1 : w16.cell? ⟨Xa, 1, none⟩ = some (.slice Ap 0 cp) := X.cell 1
          have Xc2 : w16.cell? ⟨Xa, 2, none⟩ = some (.int .i64 (-1)) := X.cell 2
          have Xc3 : w16.cell? ⟨Xa, 3, none⟩ = some (.bool false) := X.cell 3
          have Xz : Xa < w16.heap.size := X.lt
          have Xf0 : w16.frozen? ⟨Xa, 0, none⟩ = false := X.free 0
          have Xf1 : w16.frozen? ⟨Xa, 1, none⟩ = false := X.free 1
          have Xf2 : w16.frozen? ⟨Xa, 2, none⟩ = false := X.free 2
          have Xf3 : w16.frozen? ⟨Xa, 3, none⟩ = false := X.free 3
          go_wp2_with fail
          clear Xc0 Xc1 Xc2 Xc3 Xz
          clear Xf0 Xf1 Xf2 Xf3
          replace hD := (dk_set (a := Xa) (by simp) (dk_set (a := Xa) (by simp) (dk_set (a := Xa) (by simp) (dk_set (a := Xa) (by simp) hD 0 (.slice S2 nn p2)) 1 (.slice none 0 0)) 2 (.int .i64 (-1))) 3 (.bool false))
          replace h7 := (rw_set (a := Xa) (by simp) (rw_set (a := Xa) (by simp) (rw_set (a := Xa) (by simp) (rw_set (a := Xa) (by simp) h7 0 (.slice S2 nn p2)) 1 (.slice none 0 0)) 2 (.int .i64 (-1))) 3 (.bool false))
          replace hC := (cr_set (a := Xa) (by simp) (cr_set (a := Xa) (by simp) (cr_set (a := Xa) (by simp) (cr_set (a := Xa) (by simp) hC 0 (.slice S2 nn p2)) 1 (.slice none 0 0)) 2 (.int .i64 (-1))) 3 (.bool false))
          replace hcr := (rw_set (a := Xa) (by simp) (rw_set (a := Xa) (by simp) (rw_set (a := Xa) (by simp) (rw_set (a := Xa) (by simp) hcr 0 (.slice S2 nn p2)) 1 (.slice none 0 0)) 2 (.int .i64 (-1))) 3 (.bool false))
          replace hR := (rw_set (a := Xa) (by simp) (rw_set (a := Xa) (by simp) (rw_set (a := Xa) (by simp) (rw_set (a := Xa) (by simp) hR 0 (.slice S2 nn p2)) 1 (.slice none 0 0)) 2 (.int .i64 (-1))) 3 (.bool false))
          replace R2 := (rw_set (a := Xa) (by simp) (rw_set (a := Xa) (by simp) (rw_set (a := Xa) (by simp) (rw_set (a := Xa) (by simp) R2 0 (.slice S2 nn p2)) 1 (.slice none 0 0)) 2 (.int .i64 (-1))) 3 (.bool false))
          replace E2 := (dk_set (a := Xa) (by simp) (dk_set (a := Xa) (by simp) (dk_set (a := Xa) (by simp) (dk_set (a := Xa) (by simp) E2 0 (.slice S2 nn p2)) 1 (.slice none 0 0)) 2 (.int .i64 (-1))) 3 (.bool false))
          replace hB := ((((hB.setCell (p := ⟨Xa, 0, none⟩) gX (.slice S2 nn p2)).setCell (p := ⟨Xa, 1, none⟩) gX (.slice none 0 0)).setCell (p := ⟨Xa, 2, none⟩) gX (.int .i64 (-1))).setCell (p := ⟨Xa, 3, none⟩) gX (.bool false))
          replace C := ((((C.other (a := ⟨Xa, 0, none⟩) (Ne.symm nXC) (.slice S2 nn p2)).other (a := ⟨Xa, 1, none⟩) (Ne.symm nXC) (.slice none 0 0)).other (a := ⟨Xa, 2, none⟩) (Ne.symm nXC) (.int .i64 (-1))).other (a := ⟨Xa, 3, none⟩) (Ne.symm nXC) (.bool false))
          replace Lb := ((((Lb.other (a := ⟨Xa, 0, none⟩) (Ne.symm nXLb) (.slice S2 nn p2)).other (a := ⟨Xa, 1, none⟩) (Ne.symm nXLb) (.slice none 0 0)).other (a := ⟨Xa, 2, none⟩) (Ne.symm nXLb) (.int .i64 (-1))).other (a := ⟨Xa, 3, none⟩) (Ne.symm nXLb) (.bool false))
          replace X := ((((X.set 0 (.slice S2 nn p2)).set 1 (.slice none 0 0)).set 2 (.int .i64 (-1))).set 3 (.bool false))
          have hLs : InW [Lba, Xa] ((((w16.setCell ⟨Xa, 0, none⟩ (.slice S2 nn p2)).setCell ⟨Xa, 1, none⟩ (.slice none 0 0)).setCell ⟨Xa, 2, none⟩ (.int .i64 (-1))).setCell ⟨Xa, 3, none⟩ (.bool false)) := hL.later (by simp)
          replace hL := hLs
          clear hLs
          generalize ((((w16.setCell ⟨Xa, 0, none⟩ (.slice S2 nn p2)).setCell ⟨Xa, 1, none⟩ (.slice none 0 0)).setCell ⟨Xa, 2, none⟩ (.int .i64 (-1))).setCell ⟨Xa, 3, none⟩ (.bool false)) = w17 at hB hL X C Lb hD h7 hC hcr hR R2 E2 ⊢
          have h72 : Hid (RwAt w17 (Out [Lba, Xa]) (.slice A m c) (R ++ N)) := by rw [← show J.records = R ++ N by rw [hJ.out.is]]; exact hR
          exact ⟨⟨k + 1, S', R ++ N, gg + 1, m, S2, p2, none, 0, A, c, by omega, by go_num, rfl, hG2, Lib.hid (Nat.succ_le_succ hgk.out), hJm, X, dk_less E2, rw_less h72, cr_less hC, hL.less, hB⟩, by simp [intOf] <;> omega⟩
        · obtain ⟨lf, hlf⟩ : ∃ x, (lft.toNat : Int) % 40 = x := ⟨_, rfl⟩
          have hlf0 : 0 ≤ lf := by omega
          have hlf1 : lf ≤ 39 := by omega
          have HST : Hid (stopT ⟨S, [], -1, false⟩ lf = (⟨S, [], lf, false⟩, 0)) := Lib.hid (stop_is hG.out (by omega) (by omega) (by omega))
          have Xc0 : wr.cell? ⟨Xa, 0, none⟩ = some (.slice As nn cs) := X.cell 0
          have Xc1 : wr.cell? ⟨Xa, 1, none⟩ = some (.slice Ap 0 cp) := X.cell 1
          have Xc2 : wr.cell? ⟨Xa, 2, none⟩ = some (.int .i64 (-1)) := X.cell 2
          have Xc3 : wr.cell? ⟨Xa, 3, none⟩ = some (.bool false) := X.cell 3
          have Xz : Xa < wr.heap.size := X.lt
          have Cc0 : wr.cell? ⟨Ca, 0, none⟩ = some (.slice Ar nr cr) := C.cell 0
          have Cc1 : wr.cell? ⟨Ca, 1, none⟩ = some (.bool true) := C.cell 1
          have Cc2 : wr.cell? ⟨Ca, 2, none⟩ = some (.int .u8 (lft.toNat : Int)) := C.cell 2
          have Cz : Ca < wr.heap.size := C.lt
          have Lbc0 : wr.cell? ⟨Lba, 0, none⟩ = some (.slice A m c) := Lb.cell 0
          have Lbc1 : wr.cell? ⟨Lba, 1, none⟩ = some (.int .i64 nn) := Lb.cell 1
          have Lbc2 : wr.cell? ⟨Lba, 2, none⟩ = some (.int .i64 r) := Lb.cell 2
          have Lbz : Lba < wr.heap.size := Lb.lt
          go_wp2_with fail
          clear Xc0 Xc1 Xc2 Xc3 Xz Cc0 Cc1 Cc2 Cz Lbc0 Lbc1 Lbc2 Lbz
          refine (dStop_at lf hD hdi.out).mono ?_
          rintro e w12 hh
          obtain ⟨S1, p1, P1, q1, rfl, D1, hb⟩ := RetDk.is hh hL HST (ns := nn) (np := 0) (dl := lf) (ds := false) (Lib.hid hG.out.len) rfl rfl rfl
          replace X := X.later hb
          replace C := C.later hb
          replace Lb := Lb.later hb
          replace hD := dk_later hD hb
          replace h7 := rw_later h7 hb
          replace hC := cr_later hC hb
          replace hcr := rw_later hcr hb
          replace hR := rw_later hR hb
          replace hB := hB.trans (hb.mono hB.size)
          replace hL := hL.later hb.size
          clear hb
          clear hD
          clear hdi HST
          have Xc0 : w12.cell? ⟨Xa, 0, none⟩ = some (.slice As nn cs) := X.cell 0
          have Xc1 : w12.cell? ⟨Xa, 1, none⟩ = some (.slice Ap 0 cp) := X.cell 1
          have Xc2 : w12.cell? ⟨Xa, 2, none⟩ = some (.int .i64 (-1)) := X.cell 2
          have Xc3 : w12.cell? ⟨Xa, 3, none⟩ = some (.bool false) := X.cell 3
          have Xz : Xa < w12.heap.size := X.lt
          have Xf0 : w12.frozen? ⟨Xa, 0, none⟩ = false := X.free 0
          have Xf1 : w12.frozen? ⟨Xa, 1, none⟩ = false := X.free 1
          have Xf2 : w12.frozen? ⟨Xa, 2, none⟩ = false := X.free 2
          have Xf3 : w12.frozen? ⟨Xa, 3, none⟩ = false := X.free 3
          go_upto_region 30 with fail
          clear Xc0 Xc1 Xc2 Xc3 Xz
          clear Xf0 Xf1 Xf2 Xf3
          replace h7 := (rw_set (a := Xa) (by simp) (rw_set (a := Xa) (by simp) (rw_set (a := Xa) (by simp) (rw_set (a := Xa) (by simp) h7 0 (.slice S1 nn p1)) 1 (.slice P1 0 q1)) 2 (.int .i64 lf)) 3 (.bool false))
          replace hC := (cr_set (a := Xa) (by simp) (cr_set (a := Xa) (by simp) (cr_set (a := Xa) (by simp) (cr_set (a := Xa) (by simp) hC 0 (.slice S1 nn p1)) 1 (.slice P1 0 q1)) 2 (.int .i64 lf)) 3 (.bool false))
          replace hcr := (rw_set (a := Xa) (by simp) (rw_set (a := Xa) (by simp) (rw_set (a := Xa) (by simp) (rw_set (a := Xa) (by simp) hcr 0 (.slice S1 nn p1)) 1 (.slice P1 0 q1)) 2 (.int .i64 lf)) 3 (.bool false))
          replace hR := (rw_set (a := Xa) (by simp) (rw_set (a := Xa) (by simp) (rw_set (a := Xa) (by simp) (rw_set (a := Xa) (by simp) hR 0 (.slice S1 nn p1)) 1 (.slice P1 0 q1)) 2 (.int .i64 lf)) 3 (.bool false))
          replace D1 := (dk_set (a := Xa) (by simp) (dk_set (a := Xa) (by simp) (dk_set (a := Xa) (by simp) (dk_set (a := Xa) (by simp) D1 0 (.slice S1 nn p1)) 1 (.slice P1 0 q1)) 2 (.int .i64 lf)) 3 (.bool false))
          replace hB := ((((hB.setCell (p := ⟨Xa, 0, none⟩) gX (.slice S1 nn p1)).setCell (p := ⟨Xa, 1, none⟩) gX (.slice P1 0 q1)).setCell (p := ⟨Xa, 2, none⟩) gX (.int .i64 lf)).setCell (p := ⟨Xa, 3, none⟩) gX (.bool false))
          replace C := ((((C.other (a := ⟨Xa, 0, none⟩) (Ne.symm nXC) (.slice S1 nn p1)).other (a := ⟨Xa, 1, none⟩) (Ne.symm nXC) (.slice P1 0 q1)).other (a := ⟨Xa, 2, none⟩) (Ne.symm nXC) (.int .i64 lf)).other (a := ⟨Xa, 3, none⟩) (Ne.symm nXC) (.bool false))
          replace Lb := ((((Lb.other (a := ⟨Xa, 0, none⟩) (Ne.symm nXLb) (.slice S1 nn p1)).other (a := ⟨Xa, 1, none⟩) (Ne.symm nXLb) (.slice P1 0 q1)).other (a := ⟨Xa, 2, none⟩) (Ne.symm nXLb) (.int .i64 lf)).other (a := ⟨Xa, 3, none⟩) (Ne.symm nXLb) (.bool false))
          replace X := ((((X.set 0 (.slice S1 nn p1)).set 1 (.slice P1 0 q1)).set 2 (.int .i64 lf)).set 3 (.bool false))
          have hLs : InW [Lba, Xa] ((((w12.setCell ⟨Xa, 0, none⟩ (.slice S1 nn p1)).setCell ⟨Xa, 1, none⟩ (.slice P1 0 q1)).setCell ⟨Xa, 2, none⟩ (.int .i64 lf)).setCell ⟨Xa, 3, none⟩ (.bool false)) := hL.later (by simp)
          replace hL := hLs
          clear hLs
          generalize ((((w12.setCell ⟨Xa, 0, none⟩ (.slice S1 nn p1)).setCell ⟨Xa, 1, none⟩ (.slice P1 0 q1)).setCell ⟨Xa, 2, none⟩ (.int .i64 lf)).setCell ⟨Xa, 3, none⟩ (.bool false)) = w13 at hB hL X C Lb h7 hC hcr hR D1 ⊢
          have hdi2 : Hid (DkIs ⟨S, [], lf, false⟩ lf false) := Lib.hid ⟨rfl, rfl⟩
          have hns2 : Hid ((⟨S, [], lf, false⟩ : Dk).sectors.length = nn) := Lib.hid hG.out.len
          clear hlf
          rcases sync_maybe hG.out hgg (l := lf) (by omega) hJ.out with ⟨S', l', hG2, hsy⟩ | ⟨S', mm, hmm, hG2, hsy⟩
          · replace hG2 := Lib.hid hG2
            have HSY := Lib.hid hsy
            clear hsy
            have hJm : Hid ((R ++ N).length = m) := Lib.hid (by rw [List.length_append, hr.out, hm.out])
            have hj2 : Hid (JnIs ⟨R ++ N, nn, ((R ++ N).length : Nat)⟩ m nn m) := Lib.hid ⟨hJm.out, rfl, by rw [← hJm.out]⟩
            have Xc0 : w13.cell? ⟨Xa, 0, none⟩ = some (.slice S1 nn p1) := X.cell 0
            have Xc1 : w13.cell? ⟨Xa, 1, none⟩ = some (.slice P1 0 q1) := X.cell 1
            have Xc2 : w13.cell? ⟨Xa, 2, none⟩ = some (.int .i64 lf) := X.cell 2
            have Xc3 : w13.cell? ⟨Xa, 3, none⟩ = some (.bool false) := X.cell 3
            have Xz : Xa < w13.heap.size := X.lt
            have Lbc0 : w13.cell? ⟨Lba, 0, none⟩ = some (.slice A m c) := Lb.cell 0
            have Lbc1 : w13.cell? ⟨Lba, 1, none⟩ = some (.int .i64 nn) := Lb.cell 1
            have Lbc2 : w13.cell? ⟨Lba, 2, none⟩ = some (.int .i64 r) := Lb.cell 2
            have Lbz : Lba < w13.heap.size := Lb.lt
            have Cc0 : w13.cell? ⟨Ca, 0, none⟩ = some (.slice Ar nr cr) := C.cell 0
            have Cc1 : w13.cell? ⟨Ca, 1, none⟩ = some (.bool true) := C.cell 1
            have Cc2 : w13.cell? ⟨Ca, 2, none⟩ = some (.int .u8 (lft.toNat : Int)) := C.cell 2
            have Cz : Ca < w13.heap.size := C.lt
            go_wp2_with fail
            clear Xc0 Xc1 Xc2 Xc3 Xz Lbc0 Lbc1 Lbc2 Lbz Cc0 Cc1 Cc2 Cz
            refine (jSync_at hR hJi hJs D1 hdi2 hns2 (Lib.hid rfl)).mono ?_
            rintro e w14 hh
            obtain ⟨A2, c2, S2, p2, P2, q2, rfl, R2, E2, hb⟩ := RetJD.is hh hL HSY hj2 (ns := nn) (np := 0) (dl := l') (ds := false) (Lib.hid hG2.out.len) rfl rfl rfl
            replace X := X.later hb
            replace C := C.later hb
            replace Lb := Lb.later hb
            replace h7 := rw_later h7 hb
            replace hC := cr_later hC hb
            replace hcr := rw_later hcr hb
            replace hR := rw_later hR hb
            replace D1 := dk_later D1 hb
            replace hB := hB.trans (hb.mono hB.size)
            replace hL := hL.later hb.size
            clear hb
            have hm9 : m ≤ 9223372036854775807 := by have h := hR.out.caps; omega
            have Lbc0 : w14.cell? ⟨Lba, 0, none⟩ = some (.slice A m c) := Lb.cell 0
            have Lbc1 : w14.cell? ⟨Lba, 1, none⟩ = some (.int .i64 nn) := Lb.cell 1
            have Lbc2 : w14.cell? ⟨Lba, 2, none⟩ = some (.int .i64 r) := Lb.cell 2
            have Lbz : Lba < w14.heap.size := Lb.lt
            go_wp2_with fail
            clear Lbc0 Lbc1 Lbc2 Lbz
            have hst := (Below.refl w14.heap.size w14).alloc (Nat.le_refl _) (.cells #[.slice A2 m c2, .int .i64 nn, .int .i64 m] 29)
            have nXY : Xa ≠ w14.heap.size := by have := X.lt; omega
            have nLbY : Lba ≠ w14.heap.size := by have := Lb.lt; omega
            replace X := X.later hst
            replace C := C.later hst
            replace Lb := Lb.later hst
            replace h7 := rw_later h7 hst
            replace hC := cr_later hC hst
            replace hcr := rw_later hcr hst
            replace hR := rw_later hR hst
            replace D1 := dk_later D1 hst
            replace R2 := rw_later R2 hst
            replace E2 := dk_later E2 hst
            replace hL := hL.later hst.size
            replace hB := hB.trans (hst.mono hB.size)
            have Y := Box.new w14 [.slice A2 m c2, .int .i64 nn, .int .i64 m] 29
            have hzY : Hid ((w14.alloc (.cells #[.slice A2 m c2, .int .i64 nn, .int .i64 m] 29)).heap.size = w14.heap.size + 1) := Lib.hid (by simp)
            clear hst
            generalize w14.alloc (.cells #[.slice A2 m c2, .int .i64 nn, .int .i64 m] 29) = w15 at hB hL hzY Y X C Lb h7 hC hcr hR D1 R2 E2 ⊢
            generalize hga : w14.heap.size = Ya at hzY Y nXY nLbY ⊢
            clear hga
            rw [← hzY.out]
            have hst := (Below.refl w15.heap.size w15).alloc (Nat.le_refl _) (.cells #[.slice S2 nn p2, .slice P2 0 q2, .int .i64 l', .bool false] 25)
            have nXZ : Xa ≠ w15.heap.size := by have := X.lt; omega
            have nLbZ : Lba ≠ w15.heap.size := by have := Lb.lt; omega
            replace X := X.later hst
            replace C := C.later hst
            replace Lb := Lb.later hst
            replace Y := Y.later hst
            replace h7 := rw_later h7 hst
            replace hC := cr_later hC hst
            replace hcr := rw_later hcr hst
            replace hR := rw_later hR hst
            replace D1 := dk_later D1 hst
            replace R2 := rw_later R2 hst
            replace E2 := dk_later E2 hst
            replace hL := hL.later hst.size
            replace hB := hB.trans (hst.mono hB.size)
            have Z := Box.new w15 [.slice S2 nn p2, .slice P2 0 q2, .int .i64 l', .bool false] 25
            have hzZ : Hid ((w15.alloc (.cells #[.slice S2 nn p2, .slice P2 0 q2, .int .i64 l', .bool false] 25)).heap.size = w15.heap.size + 1) := Lib.hid (by simp)
            clear hst
            generalize w15.alloc (.cells #[.slice S2 nn p2, .slice P2 0 q2, .int .i64 l', .bool false] 25) = w16 at hB hL hzZ Z X C Lb Y h7 hC hcr hR D1 R2 E2 ⊢
            generalize hga : w15.heap.size = Za at hzZ Z nXZ nLbZ ⊢
            clear hga
            refine (jRSameRecs_any (R ++ N) J.records _ _ _ _ _ _ (Out _) (Out _) _ R2 hR hJm (Lib.hid hJi.out.len) hm9 hm9 true (Lib.hid (decide_eq_true (by rw [hJ.out.is])))).mono ?_
            rintro e w17 ⟨rfl, hb⟩
            replace X := X.later hb
            replace C := C.later hb
            replace Lb := Lb.later hb
            replace Y := Y.later hb
            replace Z := Z.later hb
            replace h7 := rw_later h7 hb
            replace hC := cr_later hC hb
            replace hcr := rw_later hcr hb
            replace hR := rw_later hR hb
            replace D1 := dk_later D1 hb
            replace R2 := rw_later R2 hb
            replace E2 := dk_later E2 hb
            replace hB := hB.trans (hb.mono hB.size)
            replace hL := hL.later hb.size
            clear hb
            have Lbc0 : w17.cell? ⟨Lba, 0, none⟩ = some (.slice A m c) := Lb.cell 0
            have Lbc1 : w17.cell? ⟨Lba, 1, none⟩ = some (.int .i64 nn) := Lb.cell 1
            have Lbc2 : w17.cell? ⟨Lba, 2, none⟩ = some (.int .i64 r) := Lb.cell 2
            have Lbz : Lba < w17.heap.size := Lb.lt
            have Zc0 : w17.cell? ⟨Za, 0, none⟩ = some (.slice S2 nn p2) := Z.cell 0
            have Zc1 : w17.cell? ⟨Za, 1, none⟩ = some (.slice P2 0 q2) := Z.cell 1
            have Zc2 : w17.cell? ⟨Za, 2, none⟩ = some (.int .i64 l') := Z.cell 2
            have Zc3 : w17.cell? ⟨Za, 3, none⟩ = some (.bool false) := Z.cell 3
            have Zz : Za < w17.heap.size := Z.lt
            go_wp2_with fail
            clear Lbc0 Lbc1 Lbc2 Lbz Zc0 Zc1 Zc2 Zc3 Zz
            refine (dRestart_eq _ _ _ _ _ _ _).mono ?_
            rintro e w18 ⟨rfl, hb⟩
            replace X := X.later hb
            replace C := C.later hb
            replace Lb := Lb.later hb
            replace Y := Y.later hb
            replace Z := Z.later hb
            replace h7 := rw_later h7 hb
            replace hC := cr_later hC hb
            replace hcr := rw_later hcr hb
            replace hR := rw_later hR hb
            replace D1 := dk_later D1 hb
            replace R2 := rw_later R2 hb
            replace E2 := dk_later E2 hb
            replace hB := hB.trans (hb.mono hB.size)
            replace hL := hL.later hb.size
            clear hb
            clear Y Z
            replace E2 := restart_dk E2
            have Xc0 : w18.cell? ⟨Xa, 0, none⟩ = some (.slice S1 nn p1) := X.cell 0
            have Xc1 : w18.cell? ⟨Xa, 1, none⟩ = some (.slice P1 0 q1) := X.cell 1
            have Xc2 : w18.cell? ⟨Xa, 2, none⟩ = some (.int .i64 lf) := X.cell 2
            have Xc3 : w18.cell? ⟨Xa, 3, none⟩ = some (.bool false) := X.cell 3
            have Xz : Xa < w18.heap.size := X.lt
            have Xf0 : w18.frozen? ⟨Xa, 0, none⟩ = false := X.free 0
            have Xf1 : w18.frozen? ⟨Xa, 1, none⟩ = false := X.free 1
            have Xf2 : w18.frozen? ⟨Xa, 2, none⟩ = false := X.free 2
            have Xf3 : w18.frozen? ⟨Xa, 3, none⟩ = false := X.free 3
            go_wp2_with fail
            clear Xc0 Xc1 Xc2 Xc3 Xz
            clear Xf0 Xf1 Xf2 Xf3
            replace h7 := (rw_set (a := Xa) (by simp) (rw_set (a := Xa) (by simp) (rw_set (a := Xa) (by simp) (rw_set (a := Xa) (by simp) h7 0 (.slice S2 nn p2)) 1 (.slice none 0 0)) 2 (.int .i64 (-1))) 3 (.bool false))
            replace hC := (cr_set (a := Xa) (by simp) (cr_set (a := Xa) (by simp) (cr_set (a := Xa) (by simp) (cr_set (a := Xa) (by simp) hC 0 (.slice S2 nn p2)) 1 (.slice none 0 0)) 2 (.int .i64 (-1))) 3 (.bool false))
            replace hcr := (rw_set (a := Xa) (by simp) (rw_set (a := Xa) (by simp) (rw_set (a := Xa) (by simp) (rw_set (a := Xa) (by simp) hcr 0 (.slice S2 nn p2)) 1 (.slice none 0 0)) 2 (.int .i64 (-1))) 3 (.bool false))
            replace hR := (rw_set (a := Xa) (by simp) (rw_set (a := Xa) (by simp) (rw_set (a := Xa) (by simp) (rw_set (a := Xa) (by simp) hR 0 (.slice S2 nn p2)) 1 (.slice none 0 0)) 2 (.int .i64 (-1))) 3 (.bool false))
            replace D1 := (dk_set (a := Xa) (by simp) (dk_set (a := Xa) (by simp) (dk_set (a := Xa) (by simp) (dk_set (a := Xa) (by simp) D1 0 (.slice S2 nn p2)) 1 (.slice none 0 0)) 2 (.int .i64 (-1))) 3 (.bool false))
            replace R2 := (rw_set (a := Xa) (by simp) (rw_set (a := Xa) (by simp) (rw_set (a := Xa) (by simp) (rw_set (a := Xa) (by simp) R2 0 (.slice S2 nn p2)) 1 (.slice none 0 0)) 2 (.int .i64 (-1))) 3 (.bool false))
            replace E2 := (dk_set (a := Xa) (by simp) (dk_set (a := Xa) (by simp) (dk_set (a := Xa) (by simp) (dk_set (a := Xa) (by simp) E2 0 (.slice S2 nn p2)) 1 (.slice none 0 0)) 2 (.int .i64 (-1))) 3 (.bool false))
            replace hB := ((((hB.setCell (p := ⟨Xa, 0, none⟩) gX (.slice S2 nn p2)).setCell (p := ⟨Xa, 1, none⟩) gX (.slice none 0 0)).setCell (p := ⟨Xa, 2, none⟩) gX (.int .i64 (-1))).setCell (p := ⟨Xa, 3, none⟩) gX (.bool false))
            replace C := ((((C.other (a := ⟨Xa, 0, none⟩) (Ne.symm nXC) (.slice S2 nn p2)).other (a := ⟨Xa, 1, none⟩) (Ne.symm nXC) (.slice none 0 0)).other (a := ⟨Xa, 2, none⟩) (Ne.symm nXC) (.int .i64 (-1))).other (a := ⟨Xa, 3, none⟩) (Ne.symm nXC) (.bool false))
            replace Lb := ((((Lb.other (a := ⟨Xa, 0, none⟩) (Ne.symm nXLb) (.slice S2 nn p2)).other (a := ⟨Xa, 1, none⟩) (Ne.symm nXLb) (.slice none 0 0)).other (a := ⟨Xa, 2, none⟩) (Ne.symm nXLb) (.int .i64 (-1))).other (a := ⟨Xa, 3, none⟩) (Ne.symm nXLb) (.bool false))
            replace X := ((((X.set 0 (.slice S2 nn p2)).set 1 (.slice none 0 0)).set 2 (.int .i64 (-1))).set 3 (.bool false))
            have hLs : InW [Lba, Xa] ((((w18.setCell ⟨Xa, 0, none⟩ (.slice S2 nn p2)).setCell ⟨Xa, 1, none⟩ (.slice none 0 0)).setCell ⟨Xa, 2, none⟩ (.int .i64 (-1))).setCell ⟨Xa, 3, none⟩ (.bool false)) := hL.later (by simp)
            replace hL := hLs
            clear hLs
            generalize ((((w18.setCell ⟨Xa, 0, none⟩ (.slice S2 nn p2)).setCell ⟨Xa, 1, none⟩ (.slice none 0 0)).setCell ⟨Xa, 2, none⟩ (.int .i64 (-1))).setCell ⟨Xa, 3, none⟩ (.bool false)) = w19 at hB hL X C Lb h7 hC hcr hR D1 R2 E2 ⊢
            have h72 : Hid (RwAt w19 (Out [Lba, Xa]) (.slice A m c) (R ++ N)) := by rw [← show J.records = R ++ N by rw [hJ.out.is]]; exact hR
            exact ⟨⟨k + 1, S', R ++ N, gg + 1, m, S2, p2, none, 0, A, c, by omega, by go_num, rfl, hG2, Lib.hid (Nat.succ_le_succ hgk.out), hJm, X, dk_less E2, rw_less h72, cr_less hC, hL.less, hB⟩, by simp [intOf] <;> omega⟩
          · replace hG2 := Lib.hid hG2
            have HSY := Lib.hid hsy
            clear hsy
            have Xc0 : w13.cell? ⟨Xa, 0, none⟩ = some (.slice S1 nn p1) := X.cell 0
            have Xc1 : w13.cell? ⟨Xa, 1, none⟩ = some (.slice P1 0 q1) := X.cell 1
            have Xc2 : w13.cell? ⟨Xa, 2, none⟩ = some (.int .i64 lf) := X.cell 2
            have Xc3 : w13.cell? ⟨Xa, 3, none⟩ = some (.bool false) := X.cell 3
            have Xz : Xa < w13.heap.size := X.lt
            have Lbc0 : w13.cell? ⟨Lba, 0, none⟩ = some (.slice A m c) := Lb.cell 0
            have Lbc1 : w13.cell? ⟨Lba, 1, none⟩ = some (.int .i64 nn) := Lb.cell 1
            have Lbc2 : w13.cell? ⟨Lba, 2, none⟩ = some (.int .i64 r) := Lb.cell 2
            have Lbz : Lba < w13.heap.size := Lb.lt
            go_wp2_with fail
            clear Xc0 Xc1 Xc2 Xc3 Xz Lbc0 Lbc1 Lbc2 Lbz
            refine (jSync_at hR hJi hJs D1 hdi2 hns2 (Lib.hid rfl)).mono ?_
            rintro e w14 hh
            obtain ⟨A2, c2, S2, p2, P2, q2, rfl, R2, E2, hb⟩ := RetJD.is hh hL HSY (Lib.hid ⟨rfl, rfl, rfl⟩) (n := 0) (many := 0) (sync := 0) (ns := nn) (np := 0) (dl := 0) (ds := true) (Lib.hid hG2.out.len) rfl rfl rfl
            replace X := X.later hb
            replace C := C.later hb
            replace Lb := Lb.later hb
            replace h7 := rw_later h7 hb
            replace hC := cr_later hC hb
            replace hcr := rw_later hcr hb
            replace hR := rw_later hR hb
            replace D1 := dk_later D1 hb
            replace hB := hB.trans (hb.mono hB.size)
            replace hL := hL.later hb.size
            clear hb
            go_wp2_with fail
            have hst := (Below.refl w14.heap.size w14).alloc (Nat.le_refl _) (.cells #[.slice A2 0 c2, .int .i64 0, .int .i64 0] 29)
            have nXY : Xa ≠ w14.heap.size := by have := X.lt; omega
            have nLbY : Lba ≠ w14.heap.size := by have := Lb.lt; omega
            replace X := X.later hst
            replace C := C.later hst
            replace Lb := Lb.later hst
            replace h7 := rw_later h7 hst
            replace hC := cr_later hC hst
            replace hcr := rw_later hcr hst
            replace hR := rw_later hR hst
            replace D1 := dk_later D1 hst
            replace E2 := dk_later E2 hst
            replace hL := hL.later hst.size
            replace hB := hB.trans (hst.mono hB.size)
            have Y := Box.new w14 [.slice A2 0 c2, .int .i64 0, .int .i64 0] 29
            have hzY : Hid ((w14.alloc (.cells #[.slice A2 0 c2, .int .i64 0, .int .i64 0] 29)).heap.size = w14.heap.size + 1) := Lib.hid (by simp)
            clear hst
            generalize w14.alloc (.cells #[.slice A2 0 c2, .int .i64 0, .int .i64 0] 29) = w15 at hB hL hzY Y X C Lb h7 hC hcr hR D1 E2 ⊢
            generalize hga : w14.heap.size = Ya at hzY Y nXY nLbY ⊢
            clear hga
            rw [← hzY.out]
            have hst := (Below.refl w15.heap.size w15).alloc (Nat.le_refl _) (.cells #[.slice S2 nn p2, .slice P2 0 q2, .int .i64 0, .bool true] 25)
            have nXZ : Xa ≠ w15.heap.size := by have := X.lt; omega
            have nLbZ : Lba ≠ w15.heap.size := by have := Lb.lt; omega
            replace X := X.later hst
            replace C := C.later hst
            replace Lb := Lb.later hst
            replace Y := Y.later hst
            replace h7 := rw_later h7 hst
            replace hC := cr_later hC hst
            replace hcr := rw_later hcr hst
            replace hR := rw_later hR hst
            replace D1 := dk_later D1 hst
            replace E2 := dk_later E2 hst
            replace hL := hL.later hst.size
            replace hB := hB.trans (hst.mono hB.size)
            have Z := Box.new w15 [.slice S2 nn p2, .slice P2 0 q2, .int .i64 0, .bool true] 25
            have hzZ : Hid ((w15.alloc (.cells #[.slice S2 nn p2, .slice P2 0 q2, .int .i64 0, .bool true] 25)).heap.size = w15.heap.size + 1) := Lib.hid (by simp)
            clear hst
            generalize w15.alloc (.cells #[.slice S2 nn p2, .slice P2 0 q2, .int .i64 0, .bool true] 25) = w16 at hB hL hzZ Z X C Lb Y h7 hC hcr hR D1 E2 ⊢
            generalize hga : w15.heap.size = Za at hzZ Z nXZ nLbZ ⊢
            clear hga
            refine (dRestart_eq _ _ _ _ _ _ _).mono ?_
            rintro e w17 ⟨rfl, hb⟩
            replace X := X.later hb
            replace C := C.later hb
            replace Lb := Lb.later hb
            replace Y := Y.later hb
            replace Z := Z.later hb
            replace h7 := rw_later h7 hb
            replace hC := cr_later hC hb
            replace hcr := rw_later hcr hb
            replace hR := rw_later hR hb
            replace D1 := dk_later D1 hb
            replace E2 := dk_later E2 hb
            replace hB := hB.trans (hb.mono hB.size)
            replace hL := hL.later hb.size
            clear hb
            clear Y
            have E3 := restart_dk E2
            obtain ⟨m3, hm3⟩ : ∃ x, (R ++ N.take mm).length = x := ⟨_, rfl⟩
            have HO3 : Hid (openT ⟨S', [], -1, false⟩ = (⟨R ++ N.take mm, nn, (R ++ N.take mm).length⟩, 0)) := Lib.hid (open_good hG2.out (by omega))
            have HJ3 : Hid (JnIs ⟨R ++ N.take mm, nn, (R ++ N.take mm).length⟩ m3 nn m3) := Lib.hid ⟨hm3, rfl, by rw [← hm3]⟩
            have hm4 : r ≤ m3 ∧ m3 < m := by
              have h1 := hr.out
              have h2 := hm.out
              rw [List.length_append, List.length_take] at hm3
              omega
            have htk : Hid (J.records.take m3 = R ++ N.take mm) := Lib.hid (by rw [hJ.out.is, ← hm3]; exact take_part)
            replace hm3 := Lib.hid hm3
            have hdi3 : Hid (DkIs ⟨S', [], -1, false⟩ (-1) false) := Lib.hid ⟨rfl, rfl⟩
            go_wp2_with fail
            refine (jOpen_at E3 hdi3).mono ?_
            rintro e w18 hh
            obtain ⟨A3, c3, rfl, R3, hb⟩ := RetJn.is hh hL HO3 HJ3
            replace X := X.later hb
            replace C := C.later hb
            replace Lb := Lb.later hb
            replace Z := Z.later hb
            replace h7 := rw_later h7 hb
            replace hC := cr_later hC hb
            replace hcr := rw_later hcr hb
            replace hR := rw_later hR hb
            replace D1 := dk_later D1 hb
            replace E2 := dk_later E2 hb
            replace hB := hB.trans (hb.mono hB.size)
            replace hL := hL.later hb.size
            clear hb
            clear E3 HO3 HJ3
            obtain ⟨la, lo, V, hA, _⟩ := hR.out.row (k := 0) (by rw [hJi.out.len]; omega)
            subst hA
            have hca := hR.out.caps
            have k1 : ¬ (m3 < r) := by omega
            have k2 : ¬ (m < m3) := by omega
            have k3 : decide ((m3 : Int) < (r : Int)) = false := decide_eq_false (by omega)
            have k4 : decide ((m3 : Int) > (m : Int)) = false := decide_eq_false (by omega)
            have k5 : m3 ≤ c := by omega
            have k6 : (m3 : Int) ≤ (c : Int) := by omega
            have k7 : c ≤ 9223372036854775807 := hca.2.1
            have k8 : (0 : Int) ≤ (m3 : Int) := by omega
            clear hca
            go_wp2_with fail
            have hst := (Below.refl w18.heap.size w18).alloc (Nat.le_refl _) (.cells #[.slice A3 m3 c3, .int .i64 nn, .int .i64 m3] 29)
            have nXY3 : Xa ≠ w18.heap.size := by have := X.lt; omega
            have nLbY3 : Lba ≠ w18.heap.size := by have := Lb.lt; omega
            replace X := X.later hst
            replace C := C.later hst
            replace Lb := Lb.later hst
            replace Z := Z.later hst
            replace h7 := rw_later h7 hst
            replace hC := cr_later hC hst
            replace hcr := rw_later hcr hst
            replace hR := rw_later hR hst
            replace D1 := dk_later D1 hst
            replace E2 := dk_later E2 hst
            replace R3 := rw_later R3 hst
            replace hL := hL.later hst.size
            replace hB := hB.trans (hst.mono hB.size)
            have Y3 := Box.new w18 [.slice A3 m3 c3, .int .i64 nn, .int .i64 m3] 29
            have hzY3 : Hid ((w18.alloc (.cells #[.slice A3 m3 c3, .int .i64 nn, .int .i64 m3] 29)).heap.size = w18.heap.size + 1) := Lib.hid (by simp)
            clear hst
            generalize w18.alloc (.cells #[.slice A3 m3 c3, .int .i64 nn, .int .i64 m3] 29) = w19 at hB hL hzY3 Y3 X C Lb Z h7 hC hcr hR D1 E2 R3 ⊢
            generalize hga : w18.heap.size = Y3a at hzY3 Y3 nXY3 nLbY3 ⊢
            clear hga
            have HT := Lib.hid (hR.out.taken hJi.out.len (Nat.le_of_lt hm4.2))
            have HCS : Hid (∀ z : Later w19, Calls Try.prog 24 #[.slice A3 m3 c3, .slice (some ⟨la, lo, none⟩) m3 c] z.w fun e w' => e = .returned (.bool true) ∧ Below z.w.heap.size z.w w') := Lib.hid fun z => jRSameRecs_any (R ++ N.take mm) (J.records.take m3) _ _ _ _ _ _ (Out [Lba, Xa]) (Out [Lba, Xa]) z.w (rw_later R3 z.below) (rw_later HT z.below) hm3 (Lib.hid (by rw [htk.out]; exact hm3.out)) (by omega) (by omega) true (Lib.hid (decide_eq_true htk.out.symm))
            clear HT
            go_wp2_with fail
            have Cl0 : ∀ zz : Later w19, zz.w.cell? ⟨Ca, 0, none⟩ = some (.slice Ar nr cr) := Later.cell (C.cell 0) C.lt
            have Cl1 : ∀ zz : Later w19, zz.w.cell? ⟨Ca, 1, none⟩ = some (.bool true) := Later.cell (C.cell 1) C.lt
            have Cl2 : ∀ zz : Later w19, zz.w.cell? ⟨Ca, 2, none⟩ = some (.int .u8 (lft.toNat : Int)) := Later.cell (C.cell 2) C.lt
            have Lbl0 : ∀ zz : Later w19, zz.w.cell? ⟨Lba, 0, none⟩ = some (.slice (some ⟨la, lo, none⟩) m c) := Later.cell (Lb.cell 0) Lb.lt
            have Lbl1 : ∀ zz : Later w19, zz.w.cell? ⟨Lba, 1, none⟩ = some (.int .i64 nn) := Later.cell (Lb.cell 1) Lb.lt
            have Lbl2 : ∀ zz : Later w19, zz.w.cell? ⟨Lba, 2, none⟩ = some (.int .i64 r) := Later.cell (Lb.cell 2) Lb.lt
            have Y3l0 : ∀ zz : Later w19, zz.w.cell? ⟨Y3a, 0, none⟩ = some (.slice A3 m3 c3) := Later.cell (Y3.cell 0) Y3.lt
            have Y3l1 : ∀ zz : Later w19, zz.w.cell? ⟨Y3a, 1, none⟩ = some (.int .i64 nn) := Later.cell (Y3.cell 1) Y3.lt
            have Y3l2 : ∀ zz : Later w19, zz.w.cell? ⟨Y3a, 2, none⟩ = some (.int .i64 m3) := Later.cell (Y3.cell 2) Y3.lt
            refine wp_region_later (by kernel_rfl) (by kernel_rfl) ?_
            repeat (go_big_quiet_step ((first | (go_at_call 24; with_reducible exact Later.call _ (HCS.out _)))))
            refine wpQuiet_nil ?_
            intro _ hw'
            obtain ⟨yq, hw''⟩ := hw'
            subst hw''
            clear Cl0 Cl1 Cl2 Lbl0 Lbl1 Lbl2 Y3l0 Y3l1 Y3l2
            obtain ⟨w20, hz, hb⟩ : ∃ z, yq.w = z ∧ Below w19.heap.size w19 z := ⟨_, rfl, yq.below⟩
            rw [hz]
            clear hz
            have X := X.later hb
            have C := C.later hb
            have Lb := Lb.later hb
            have Z := Z.later hb
            have Y3 := Y3.later hb
            have h7 := rw_later h7 hb
            have hC := cr_later hC hb
            have hcr := rw_later hcr hb
            have hR := rw_later hR hb
            have D1 := dk_later D1 hb
            have E2 := dk_later E2 hb
            have R3 := rw_later R3 hb
            have hB := hB.trans (hb.mono hB.size)
            replace hL := hL.later hb.size
            clear hb
            clear HCS
            have Y3c0 : w20.cell? ⟨Y3a, 0, none⟩ = some (.slice A3 m3 c3) := Y3.cell 0
            have Y3c1 : w20.cell? ⟨Y3a, 1, none⟩ = some (.int .i64 nn) := Y3.cell 1
            have Y3c2 : w20.cell? ⟨Y3a, 2, none⟩ = some (.int .i64 m3) := Y3.cell 2
            have Y3z : Y3a < w20.heap.size := Y3.lt
            have Zc0 : w20.cell? ⟨Za, 0, none⟩ = some (.slice S2 nn p2) := Z.cell 0
            have Zc1 : w20.cell? ⟨Za, 1, none⟩ = some (.slice P2 0 q2) := Z.cell 1
            have Zc2 : w20.cell? ⟨Za, 2, none⟩ = some (.int .i64 0) := Z.cell 2
            have Zc3 : w20.cell? ⟨Za, 3, none⟩ = some (.bool true) := Z.cell 3
            have Zz : Za < w20.heap.size := Z.lt
            go_wp2_with fail
            clear Y3c0 Y3c1 Y3c2 Y3z Zc0 Zc1 Zc2 Zc3 Zz
            refine (dRestart_eq _ _ _ _ _ _ _).mono ?_
            rintro e w21 ⟨rfl, hb⟩
            replace X := X.later hb
            replace C := C.later hb
            replace Lb := Lb.later hb
            replace Z := Z.later hb
            replace Y3 := Y3.later hb
            replace h7 := rw_later h7 hb
            replace hC := cr_later hC hb
            replace hcr := rw_later hcr hb
            replace hR := rw_later hR hb
            replace D1 := dk_later D1 hb
            replace E2 := dk_later E2 hb
            replace R3 := rw_later R3 hb
            replace hB := hB.trans (hb.mono hB.size)
            replace hL := hL.later hb.size
            clear hb
            clear Y3 Z
            replace E2 := restart_dk E2
            have Xc0 : w21.cell? ⟨Xa, 0, none⟩ = some (.slice S1 nn p1) := X.cell 0
            have Xc1 : w21.cell? ⟨Xa, 1, none⟩ = some (.slice P1 0 q1) := X.cell 1
            have Xc2 : w21.cell? ⟨Xa, 2, none⟩ = some (.int .i64 lf) := X.cell 2
            have Xc3 : w21.cell? ⟨Xa, 3, none⟩ = some (.bool false) := X.cell 3
            have Xz : Xa < w21.heap.size := X.lt
            have Xf0 : w21.frozen? ⟨Xa, 0, none⟩ = false := X.free 0
            have Xf1 : w21.frozen? ⟨Xa, 1, none⟩ = false := X.free 1
            have Xf2 : w21.frozen? ⟨Xa, 2, none⟩ = false := X.free 2
            have Xf3 : w21.frozen? ⟨Xa, 3, none⟩ = false := X.free 3
            go_wp2_with fail
            clear Xc0 Xc1 Xc2 Xc3 Xz
            clear Xf0 Xf1 Xf2 Xf3
            replace h7 := (rw_set (a := Xa) (by simp) (rw_set (a := Xa) (by simp) (rw_set (a := Xa) (by simp) (rw_set (a := Xa) (by simp) h7 0 (.slice S2 nn p2)) 1 (.slice none 0 0)) 2 (.int .i64 (-1))) 3 (.bool false))
            replace hC := (cr_set (a := Xa) (by simp) (cr_set (a := Xa) (by simp) (cr_set (a := Xa) (by simp) (cr_set (a := Xa) (by simp) hC 0 (.slice S2 nn p2)) 1 (.slice none 0 0)) 2 (.int .i64 (-1))) 3 (.bool false))
            replace hcr := (rw_set (a := Xa) (by simp) (rw_set (a := Xa) (by simp) (rw_set (a := Xa) (by simp) (rw_set (a := Xa) (by simp) hcr 0 (.slice S2 nn p2)) 1 (.slice none 0 0)) 2 (.int .i64 (-1))) 3 (.bool false))
            replace hR := (rw_set (a := Xa) (by simp) (rw_set (a := Xa) (by simp) (rw_set (a := Xa) (by simp) (rw_set (a := Xa) (by simp) hR 0 (.slice S2 nn p2)) 1 (.slice none 0 0)) 2 (.int .i64 (-1))) 3 (.bool false))
            replace D1 := (dk_set (a := Xa) (by simp) (dk_set (a := Xa) (by simp) (dk_set (a := Xa) (by simp) (dk_set (a := Xa) (by simp) D1 0 (.slice S2 nn p2)) 1 (.slice none 0 0)) 2 (.int .i64 (-1))) 3 (.bool false))
            replace E2 := (dk_set (a := Xa) (by simp) (dk_set (a := Xa) (by simp) (dk_set (a := Xa) (by simp) (dk_set (a := Xa) (by simp) E2 0 (.slice S2 nn p2)) 1 (.slice none 0 0)) 2 (.int .i64 (-1))) 3 (.bool false))
            replace R3 := (rw_set (a := Xa) (by simp) (rw_set (a := Xa) (by simp) (rw_set (a := Xa) (by simp) (rw_set (a := Xa) (by simp) R3 0 (.slice S2 nn p2)) 1 (.slice none 0 0)) 2 (.int .i64 (-1))) 3 (.bool false))
            replace hB := ((((hB.setCell (p := ⟨Xa, 0, none⟩) gX (.slice S2 nn p2)).setCell (p := ⟨Xa, 1, none⟩) gX (.slice none 0 0)).setCell (p := ⟨Xa, 2, none⟩) gX (.int .i64 (-1))).setCell (p := ⟨Xa, 3, none⟩) gX (.bool false))
            replace C := ((((C.other (a := ⟨Xa, 0, none⟩) (Ne.symm nXC) (.slice S2 nn p2)).other (a := ⟨Xa, 1, none⟩) (Ne.symm nXC) (.slice none 0 0)).other (a := ⟨Xa, 2, none⟩) (Ne.symm nXC) (.int .i64 (-1))).other (a := ⟨Xa, 3, none⟩) (Ne.symm nXC) (.bool false))
            replace Lb := ((((Lb.other (a := ⟨Xa, 0, none⟩) (Ne.symm nXLb) (.slice S2 nn p2)).other (a := ⟨Xa, 1, none⟩) (Ne.symm nXLb) (.slice none 0 0)).other (a := ⟨Xa, 2, none⟩) (Ne.symm nXLb) (.int .i64 (-1))).other (a := ⟨Xa, 3, none⟩) (Ne.symm nXLb) (.bool false))
            replace X := ((((X.set 0 (.slice S2 nn p2)).set 1 (.slice none 0 0)).set 2 (.int .i64 (-1))).set 3 (.bool false))
            have hLs : InW [Lba, Xa] ((((w21.setCell ⟨Xa, 0, none⟩ (.slice S2 nn p2)).setCell ⟨Xa, 1, none⟩ (.slice none 0 0)).setCell ⟨Xa, 2, none⟩ (.int .i64 (-1))).setCell ⟨Xa, 3, none⟩ (.bool false)) := hL.later (by simp)
            replace hL := hLs
            clear hLs
            generalize ((((w21.setCell ⟨Xa, 0, none⟩ (.slice S2 nn p2)).setCell ⟨Xa, 1, none⟩ (.slice none 0 0)).setCell ⟨Xa, 2, none⟩ (.int .i64 (-1))).setCell ⟨Xa, 3, none⟩ (.bool false)) = w22 at hB hL X C Lb h7 hC hcr hR D1 E2 R3 ⊢
            exact ⟨⟨k + 1, S', R ++ N.take mm, gg + 1, m3, S2, p2, none, 0, A3, c3, by omega, by go_num, rfl, hG2, Lib.hid (Nat.succ_le_succ hgk.out), hm3, X, dk_less E2, rw_less R3, cr_less hC, hL.less, hB⟩, by simp [intOf] <;> omega⟩
      have hqn : decide ((q : Int) < (nr : Int)) = true := decide_eq_true (by omega)
      have j0 : (0 : Int) ≤ (q : Int) := by omega
      have j1 : (q : Int) < (nr : Int) := by omega
      obtain ⟨rb, ro, V, hAr, hrL, hrz, hrc, hrb⟩ := hcr.out.row (k := q) (by rw [hnr.out]; exact hqlt)
      subst hAr
      obtain ⟨Ab, cb', hV, hbm⟩ := hrb.form
      subst hV
      obtain ⟨b, hb0⟩ : ∃ x, bs[q]'(by rw [hnr.out]; exact hqlt) = x := ⟨_, rfl⟩
      rw [hb0] at hrc hrb hbm
      have hnb3 := hbl.out b (by rw [← hb0]; exact List.getElem_mem _)
      clear hb0
      obtain ⟨nb, hnb⟩ : ∃ x, b.length = x := ⟨_, rfl⟩
      rw [hnb] at hrc hrb hnb3
      replace hnb := Lib.hid hnb
      have hnb2 : nb ≤ 9223372036854775000 := by omega
      clear hnb3
      replace hrb := Lib.hid hrb
      clear hbm hrL
      obtain ⟨⟨J1, er1⟩, h1⟩ : ∃ p, appendT J b = p := ⟨_, rfl⟩
      obtain ⟨n1, hn1⟩ : ∃ k, J1.records.length = k := ⟨_, rfl⟩
      obtain ⟨m1, hm1⟩ : ∃ k, J1.many = k := ⟨_, rfl⟩
      obtain ⟨s1, hs1⟩ : ∃ k, J1.synced = k := ⟨_, rfl⟩
      have hj1 : Hid (JnIs J1 n1 m1 s1) := ⟨hn1, hm1, hs1⟩
      clear hn1 hm1 hs1
      replace h1 := Lib.hid h1
      have Lbc0 : wr.cell? ⟨Lba, 0, none⟩ = some (.slice A m c) := Lb.cell 0
      have Lbc1 : wr.cell? ⟨Lba, 1, none⟩ = some (.int .i64 nn) := Lb.cell 1
      have Lbc2 : wr.cell? ⟨Lba, 2, none⟩ = some (.int .i64 r) := Lb.cell 2
      have Lbz : Lba < wr.heap.size := Lb.lt
      go_wp2_with fail
      clear Lbc0 Lbc1 Lbc2 Lbz
      refine (jAppend_at hR hJi hJs hrb hnb hnb2).mono ?_
      rintro e w23 hh
      obtain ⟨A1, c1, rfl, R1, hb⟩ := RetJn.is hh hL h1 hj1
      replace X := X.later hb
      replace C := C.later hb
      replace Lb := Lb.later hb
      replace hD := dk_later hD hb
      replace h7 := rw_later h7 hb
      replace hC := cr_later hC hb
      replace hcr := rw_later hcr hb
      replace hR := rw_later hR hb
      replace hrb := bs_later hrb hb
      replace hB := hB.trans (hb.mono hB.size)
      replace hL := hL.later hb.size
      clear hb
      clear hrc hrz
      by_cases he : er1 = 0
      rotate_left
      · have he2 : (er1 == 0) = false := by simpa using he
        have Lbc0 : w23.cell? ⟨Lba, 0, none⟩ = some (.slice A m c) := Lb.cell 0
        have Lbc1 : w23.cell? ⟨Lba, 1, none⟩ = some (.int .i64 nn) := Lb.cell 1
        have Lbc2 : w23.cell? ⟨Lba, 2, none⟩ = some (.int .i64 r) := Lb.cell 2
        have Lbz : Lba < w23.heap.size := Lb.lt
        go_wp2_with fail
        clear Lbc0 Lbc1 Lbc2 Lbz
        have hst := (Below.refl w23.heap.size w23).alloc (Nat.le_refl _) (.cells #[.slice A1 n1 c1, .int .i64 m1, .int .i64 s1] 29)
        have nXY : Xa ≠ w23.heap.size := by have := X.lt; omega
        have nLbY : Lba ≠ w23.heap.size := by have := Lb.lt; omega
        replace X := X.later hst
        replace C := C.later hst
        replace Lb := Lb.later hst
        replace hD := dk_later hD hst
        replace h7 := rw_later h7 hst
        replace hC := cr_later hC hst
        replace hcr := rw_later hcr hst
        replace hR := rw_later hR hst
        replace hrb := bs_later hrb hst
        replace R1 := rw_later R1 hst
        replace hL := hL.later hst.size
        replace hB := hB.trans (hst.mono hB.size)
        have Y := Box.new w23 [.slice A1 n1 c1, .int .i64 m1, .int .i64 s1] 29
        have hzY : Hid ((w23.alloc (.cells #[.slice A1 n1 c1, .int .i64 m1, .int .i64 s1] 29)).heap.size = w23.heap.size + 1) := Lib.hid (by simp)
        clear hst
        generalize w23.alloc (.cells #[.slice A1 n1 c1, .int .i64 m1, .int .i64 s1] 29) = w24 at hB hL hzY Y X C Lb hD h7 hC hcr hR hrb R1 ⊢
        generalize hga : w23.heap.size = Ya at hzY Y nXY nLbY ⊢
        clear hga
        exact ⟨⟨q + 1, m, N, J, A, c, by omega, by go_num, hJ, hm, Lb, hR, X, hD, h7, hC, hcr, C, hL, hB⟩, by simp [intOf] <;> omega⟩
      subst he
      have hJ1 : Hid (Jnd J1 R (N ++ [b]) nn) := Lib.hid (by have := hJ.out.more (b := b) (by rw [h1.out]); rwa [h1.out] at this)
      have hm1 : Hid (r + (N ++ [b]).length = m + 1) := Lib.hid (by rw [List.length_append, ← Nat.add_assoc, hm.out]; rfl)
      have hji := hJ1.out.jn
      rw [hr.out, hm1.out] at hji
      obtain rfl : n1 = m + 1 := hj1.out.len.symm.trans hji.len
      obtain rfl : m1 = nn := hj1.out.many.symm.trans hji.many
      obtain rfl : s1 = r := hj1.out.sync.symm.trans hji.sync
      clear hji
      go_upto_region 22 with fail
      have hst := (Below.refl w23.heap.size w23).alloc (Nat.le_refl _) (.cells #[.slice A1 (m + 1) c1, .int .i64 nn, .int .i64 r] 29)
      have nXY : Xa ≠ w23.heap.size := by have := X.lt; omega
      have nLbY : Lba ≠ w23.heap.size := by have := Lb.lt; omega
      replace X := X.later hst
      replace C := C.later hst
      replace Lb := Lb.later hst
      replace hD := dk_later hD hst
      replace h7 := rw_later h7 hst
      replace hC := cr_later hC hst
      replace hcr := rw_later hcr hst
      replace hR := rw_later hR hst
      replace hrb := bs_later hrb hst
      replace R1 := rw_later R1 hst
      replace hL := hL.later hst.size
      replace hB := hB.trans (hst.mono hB.size)
      have Y := Box.new w23 [.slice A1 (m + 1) c1, .int .i64 nn, .int .i64 r] 29
      have hzY : Hid ((w23.alloc (.cells #[.slice A1 (m + 1) c1, .int .i64 nn, .int .i64 r] 29)).heap.size = w23.heap.size + 1) := Lib.hid (by simp)
      clear hst
      generalize w23.alloc (.cells #[.slice A1 (m + 1) c1, .int .i64 nn, .int .i64 r] 29) = w24 at hB hL hzY Y X C Lb hD h7 hC hcr hR hrb R1 ⊢
      generalize hga : w23.heap.size = Ya at hzY Y nXY nLbY ⊢
      clear hga
      have Lbc0 : w24.cell? ⟨Lba, 0, none⟩ = some (.slice A m c) := Lb.cell 0
      have Lbc1 : w24.cell? ⟨Lba, 1, none⟩ = some (.int .i64 nn) := Lb.cell 1
      have Lbc2 : w24.cell? ⟨Lba, 2, none⟩ = some (.int .i64 r) := Lb.cell 2
      have Lbz : Lba < w24.heap.size := Lb.lt
      have Yc0 : w24.cell? ⟨Ya, 0, none⟩ = some (.slice A1 (m + 1) c1) := Y.cell 0
      have Yc1 : w24.cell? ⟨Ya, 1, none⟩ = some (.int .i64 nn) := Y.cell 1
      have Yc2 : w24.cell? ⟨Ya, 2, none⟩ = some (.int .i64 r) := Y.cell 2
      have Yz : Ya < w24.heap.size := Y.lt
      have Lbf0 : w24.frozen? ⟨Lba, 0, none⟩ = false := Lb.free 0
      have Lbf1 : w24.frozen? ⟨Lba, 1, none⟩ = false := Lb.free 1
      have Lbf2 : w24.frozen? ⟨Lba, 2, none⟩ = false := Lb.free 2
      go_wp2_with fail
      clear Lbc0 Lbc1 Lbc2 Lbz Yc0 Yc1 Yc2 Yz
      clear Lbf0 Lbf1 Lbf2
      replace hD := (dk_set (a := Lba) (by simp) (dk_set (a := Lba) (by simp) (dk_set (a := Lba) (by simp) hD 0 (.slice A1 (m + 1) c1)) 1 (.int .i64 nn)) 2 (.int .i64 r))
      replace h7 := (rw_set (a := Lba) (by simp) (rw_set (a := Lba) (by simp) (rw_set (a := Lba) (by simp) h7 0 (.slice A1 (m + 1) c1)) 1 (.int .i64 nn)) 2 (.int .i64 r))
      replace hC := (cr_set (a := Lba) (by simp) (cr_set (a := Lba) (by simp) (cr_set (a := Lba) (by simp) hC 0 (.slice A1 (m + 1) c1)) 1 (.int .i64 nn)) 2 (.int .i64 r))
      replace hcr := (rw_set (a := Lba) (by simp) (rw_set (a := Lba) (by simp) (rw_set (a := Lba) (by simp) hcr 0 (.slice A1 (m + 1) c1)) 1 (.int .i64 nn)) 2 (.int .i64 r))
      replace hR := (rw_set (a := Lba) (by simp) (rw_set (a := Lba) (by simp) (rw_set (a := Lba) (by simp) hR 0 (.slice A1 (m + 1) c1)) 1 (.int .i64 nn)) 2 (.int .i64 r))
      replace hrb := (bs_set (a := Lba) (by simp) (bs_set (a := Lba) (by simp) (bs_set (a := Lba) (by simp) hrb 0 (.slice A1 (m + 1) c1)) 1 (.int .i64 nn)) 2 (.int .i64 r))
      replace R1 := (rw_set (a := Lba) (by simp) (rw_set (a := Lba) (by simp) (rw_set (a := Lba) (by simp) R1 0 (.slice A1 (m + 1) c1)) 1 (.int .i64 nn)) 2 (.int .i64 r))
      replace hB := (((hB.setCell (p := ⟨Lba, 0, none⟩) gLb (.slice A1 (m + 1) c1)).setCell (p := ⟨Lba, 1, none⟩) gLb (.int .i64 nn)).setCell (p := ⟨Lba, 2, none⟩) gLb (.int .i64 r))
      replace X := (((X.other (a := ⟨Lba, 0, none⟩) nXLb (.slice A1 (m + 1) c1)).other (a := ⟨Lba, 1, none⟩) nXLb (.int .i64 nn)).other (a := ⟨Lba, 2, none⟩) nXLb (.int .i64 r))
      replace C := (((C.other (a := ⟨Lba, 0, none⟩) nCLb (.slice A1 (m + 1) c1)).other (a := ⟨Lba, 1, none⟩) nCLb (.int .i64 nn)).other (a := ⟨Lba, 2, none⟩) nCLb (.int .i64 r))
      replace Y := (((Y.other (a := ⟨Lba, 0, none⟩) (Ne.symm nLbY) (.slice A1 (m + 1) c1)).other (a := ⟨Lba, 1, none⟩) (Ne.symm nLbY) (.int .i64 nn)).other (a := ⟨Lba, 2, none⟩) (Ne.symm nLbY) (.int .i64 r))
      replace Lb := (((Lb.set 0 (.slice A1 (m + 1) c1)).set 1 (.int .i64 nn)).set 2 (.int .i64 r))
      have hLs : InW [Lba, Xa] (((w24.setCell ⟨Lba, 0, none⟩ (.slice A1 (m + 1) c1)).setCell ⟨Lba, 1, none⟩ (.int .i64 nn)).setCell ⟨Lba, 2, none⟩ (.int .i64 r)) := hL.later (by simp)
      replace hL := hLs
      clear hLs
      generalize (((w24.setCell ⟨Lba, 0, none⟩ (.slice A1 (m + 1) c1)).setCell ⟨Lba, 1, none⟩ (.int .i64 nn)).setCell ⟨Lba, 2, none⟩ (.int .i64 r)) = w25 at hB hL X C Lb Y hD h7 hC hcr hR hrb R1 ⊢
      exact ⟨⟨q + 1, m + 1, N ++ [b], J1, A1, c1, by omega, by go_num, hJ1, hm1, Lb, R1, X, hD, h7, hC, hcr, C, hL, hB⟩, by simp [intOf] <;> omega⟩

theorem law_JournalSurvives (s : Int) (sc : List Cr) (Vc : Value) (w : World) (hs : 0 ≤ s ∧ s ≤ 255) (hC : CrAt w (fun b => b < w.heap.size) Vc sc) (hf : ∀ x ∈ sc, ∀ b ∈ x.records, b.length ≤ 140737488351232) :
    Calls Try.prog 9 #[.int .u8 s, Vc] w fun e w' => e = .returned (.bool true) ∧ Below w.heap.size w w' := by
  obtain ⟨Ac, cc, rfl, _⟩ := hC.form
  obtain ⟨k, rfl⟩ : ∃ k : Nat, s = (k : Int) := ⟨s.toNat, by omega⟩
  by_cases h8 : sc.length ≤ 8
  · exact lawV k sc Ac _ cc w (Lib.hid (hC.weak fun b _ _ hc => by cases hc)) (Lib.hid rfl) (by omega) h8 hf
  · exact lawV_0 k Ac _ cc w (by omega)
end Go.Proofs.Ythlidhfahaalgaa
