/-
  The law DiskTogether: the loops. (Printed by gen_er.py.)
-/
import Derived.Test.YtdmeogkdoeaemaaES
import Derived.Deep.CutBlock
namespace Go.Proofs.Ytdmeogkdoeaemaa
open Go.RowKit
attribute [local go_sem ↓ high] app_named cop_named

set_option maxRecDepth 100000 in
set_option maxHeartbeats 8000000 in
theorem lawT_go (d : Dk) (As : Option Addr) (ns : Nat) (cs : Nat) (Ap : Option Addr) (cp : Nat) (dl : Int) (w : World) (hD : Hid (DkAt w (Out []) (.slice As ns cs) (.slice Ap 0 cp) d)) (hd : Hid (DkIs d dl false)) (hsm : Hid d.small) (Av : Option Addr) (n cv : Nat) (sc : List Ac) (hA : Hid (AcsAt w (Out []) (.slice Av n cv) sc)) (P : List Wr) (hP : Hid (P = sc.map fun a => acW ns a.at'.toNat a.byte)) (hPo : Hid (WrOk d P)) (hPn : Hid (P.length = n)) (hscn : Hid (sc.length = n)) (hok : Hid (d.okB = true)) (hsl : Hid (d.sectors.length = ns)) (hpl : Hid (d.pending = [])) (hf : Hid (fewB d = true)) (hn : n ≤ 20) (hs0 : 0 < ns) (hs1 : ns ≤ 4096) (hck : Hid (d.checkT = 0)) : Calls Try.prog 8 #[.agg #[.slice As ns cs, .slice Ap 0 cp, .int .i64 dl, .bool false], .slice Av n cv] w (fun e w' => e = .returned (.bool true) ∧ Below w.heap.size w w') := by
  have hB := Below.refl w.heap.size w
  have hL := InW.nil w
  go_enter Try.func8, Try.ntmps8
  go_wp2_with fail
  have hst := (Below.refl w.heap.size w).alloc (Nat.le_refl _) (.cells #[.slice As ns cs, .slice Ap 0 cp, .int .i64 dl, .bool false] 25)
  replace hD := dk_later hD hst
  replace hA := acs_later hA hst
  replace hL := hL.later hst.size
  replace hB := hB.trans (hst.mono hB.size)
  have X0 := Box.new w [.slice As ns cs, .slice Ap 0 cp, .int .i64 dl, .bool false] 25
  have hzX0 : Hid ((w.alloc (.cells #[.slice As ns cs, .slice Ap 0 cp, .int .i64 dl, .bool false] 25)).heap.size = w.heap.size + 1) := Lib.hid (by simp)
  clear hst
  generalize w.alloc (.cells #[.slice As ns cs, .slice Ap 0 cp, .int .i64 dl, .bool false] 25) = w1 at hB hL hzX0 X0 hD hA ⊢
  generalize hga : w.heap.size = X0a at hzX0 X0 ⊢
  clear hga
  refine (dSane_any _).mono ?_
  rintro e w2 ⟨rfl, hb⟩
  replace X0 := X0.later hb
  replace hD := dk_later hD hb
  replace hA := acs_later hA hb
  replace hB := hB.trans (hb.mono hB.size)
  replace hL := hL.later hb.size
  clear hb
  clear hzX0
  have X0c0 : w2.cell? ⟨X0a, 0, none⟩ = some (.slice As ns cs) := X0.cell 0
  have X0c1 : w2.cell? ⟨X0a, 1, none⟩ = some (.slice Ap 0 cp) := X0.cell 1
  have X0c2 : w2.cell? ⟨X0a, 2, none⟩ = some (.int .i64 dl) := X0.cell 2
  have X0c3 : w2.cell? ⟨X0a, 3, none⟩ = some (.bool false) := X0.cell 3
  have X0z : X0a < w2.heap.size := X0.lt
  go_wp2_with fail
  clear X0c0 X0c1 X0c2 X0c3 X0z
  refine (dFew_is hD hd.out hsm hf).mono ?_
  rintro e w3 ⟨rfl, hb⟩
  replace X0 := X0.later hb
  replace hD := dk_later hD hb
  replace hA := acs_later hA hb
  replace hB := hB.trans (hb.mono hB.size)
  replace hL := hL.later hb.size
  clear hb
  have X0c0 : w3.cell? ⟨X0a, 0, none⟩ = some (.slice As ns cs) := X0.cell 0
  have X0c1 : w3.cell? ⟨X0a, 1, none⟩ = some (.slice Ap 0 cp) := X0.cell 1
  have X0c2 : w3.cell? ⟨X0a, 2, none⟩ = some (.int .i64 dl) := X0.cell 2
  have X0c3 : w3.cell? ⟨X0a, 3, none⟩ = some (.bool false) := X0.cell 3
  have X0z : X0a < w3.heap.size := X0.lt
  go_wp2_with fail
  clear X0c0 X0c1 X0c2 X0c3 X0z
  refine (dCheck_at hck hD.out hd.out.left hd.out.stopped).mono ?_
  rintro e w4 ⟨rfl, hb⟩
  replace X0 := X0.later hb
  replace hD := dk_later hD hb
  replace hA := acs_later hA hb
  replace hB := hB.trans (hb.mono hB.size)
  replace hL := hL.later hb.size
  clear hb
  have X0c0 : w4.cell? ⟨X0a, 0, none⟩ = some (.slice As ns cs) := X0.cell 0
  have X0c1 : w4.cell? ⟨X0a, 1, none⟩ = some (.slice Ap 0 cp) := X0.cell 1
  have X0c2 : w4.cell? ⟨X0a, 2, none⟩ = some (.int .i64 dl) := X0.cell 2
  have X0c3 : w4.cell? ⟨X0a, 3, none⟩ = some (.bool false) := X0.cell 3
  have X0z : X0a < w4.heap.size := X0.lt
  have e20 : decide ((20 : Int) < (n : Int)) = false := decide_eq_false (by omega)
  have ens : ((ns : Int) == 0) = false := by simp; omega
  go_upto_region 5 with fail
  have X0o := X0
  go_cut [5, 6] (fun s5 s6 wx => ∃ xa ya : Nat, s5 = .pointer (some ⟨xa, 0, none⟩) ∧ s6 = .pointer (some ⟨ya, 0, none⟩) ∧ xa ≠ ya ∧ w4.heap.size ≤ xa ∧ w4.heap.size ≤ ya ∧ Box wx xa [.slice As ns cs, .slice Ap 0 cp, .int .i64 dl, .bool false] ∧ Box wx ya [.slice As ns cs, .slice Ap 0 cp, .int .i64 dl, .bool false] ∧ Below w4.heap.size w4 wx)
  case first =>
    go_region
    all_goals (go_wp2_with fail; go_meet)
    all_goals
      have hst := ((Below.refl w4.heap.size w4).alloc (Nat.le_refl _) (.cells #[.slice As ns cs, .slice Ap 0 cp, .int .i64 dl, .bool false] 25)).alloc (by simp) (.cells #[.slice As ns cs, .slice Ap 0 cp, .int .i64 dl, .bool false] 25)
      have b1 := ((Box.new w4 [.slice As ns cs, .slice Ap 0 cp, .int .i64 dl, .bool false] 25).alloc (.cells #[.slice As ns cs, .slice Ap 0 cp, .int .i64 dl, .bool false] 25)).later (Below.drew (Below.refl _ _))
      have b2 := (Box.newAt (w := w4.alloc (.cells #[.slice As ns cs, .slice Ap 0 cp, .int .i64 dl, .bool false] 25)) (n := w4.heap.size + 1) [.slice As ns cs, .slice Ap 0 cp, .int .i64 dl, .bool false] 25 (by simp)).later (Below.drew (Below.refl _ _))
      first
        | exact ⟨_, _, rfl, rfl, by omega, Nat.le_refl _, by omega, b1, b2, hst.drew⟩
        | exact ⟨_, _, rfl, rfl, by omega, by omega, Nat.le_refl _, b2, b1, hst.drew⟩
  case rest =>
    obtain ⟨xa, ya, rfl, rfl, hxy, hxw, hyw, X, Y, hb⟩ := hcut
    clear X0c0 X0c1 X0c2 X0c3 X0z e20 ens
    replace hD := dk_later (dk_more hyw (dk_more hxw hD)) hb
    replace hA := acs_later (acs_more hyw (acs_more hxw hA)) hb
    replace X0 := X0.later hb
    have hgx : w.heap.size ≤ xa := Nat.le_trans hB.size hxw
    have hgy : w.heap.size ≤ ya := Nat.le_trans hB.size hyw
    have hx0 : X0a ≠ xa := by have := X0o.lt; omega
    have hy0 : X0a ≠ ya := by have := X0o.lt; omega
    clear X0o
    replace hB := hB.trans (hb.mono hB.size)
    clear hb
    go_upto_block 0 with fail
    go_cut [7] from 49 to 87 (fun e wr => ∃ (x : Dk) (er : Int) (xl : Int) (xs : Bool) (Ax : Option Addr) (cx : Nat) (Px : Option Addr) (qx : Nat), e = .int .i64 er ∧ Hid (eachT d P n = (x, er)) ∧ Hid (DkIs x xl xs) ∧ Box wr xa [.slice Ax ns cx, .slice Px 0 qx, .int .i64 xl, .bool xs] ∧ Hid (DkAt wr (Out [ya, xa]) (.slice Ax ns cx) (.slice Px 0 qx) x) ∧ Box wr ya [.slice As ns cs, .slice Ap 0 cp, .int .i64 dl, .bool false] ∧ Box wr X0a [.slice As ns cs, .slice Ap 0 cp, .int .i64 dl, .bool false] ∧ Hid (DkAt wr (Out [ya, xa]) (.slice As ns cs) (.slice Ap 0 cp) d) ∧ Hid (AcsAt wr (Out [ya, xa]) (.slice Av n cv) sc) ∧ Below w.heap.size w wr)
    rotate_left
    · obtain ⟨x, er, xl, xs, Ax, cx, Px, qx, rfl, hX, hxi, X, hDx, Y, X0, hD, hA, hB⟩ := hcut
      have HT := Lib.hid (hX.out : syncT (d.wait P n) = (x, er))
      have HDI : DkIs (d.wait P 0) dl false := ⟨hd.out.left, rfl⟩
      have hDw : Hid (DkAt wc (Out [ya, xa]) (.slice As ns cs) (.slice Ap 0 cp) (d.wait P 0)) := by
        have e : d.wait P 0 = d := by
          have h1 := hpl.out
          have h2 := hd.out.stopped
          obtain ⟨a1, a2, a3, a4⟩ := d
          dsimp only at h1 h2
          subst h1 h2
          rfl
        rw [e]
        exact hD
      obtain ⟨nx, hnx⟩ : ∃ m, x.sectors.length = m := ⟨_, rfl⟩
      obtain ⟨px, hpx⟩ : ∃ m, x.pending.length = m := ⟨_, rfl⟩
      have hsx := each_facts hok.out hPo.out (by rw [hPn.out]; omega) (by rw [hPn.out]; exact Nat.le_refl _) hX.out
      have H1 : Hid (x.sectors.length = ns) := Lib.hid (hsx.1.trans hsl.out)
      have H2 : Hid (x.pending.length = 0) := Lib.hid (by rw [hsx.2.1]; rfl)
      clear hD hsx hnx hpx
      go_wp2_with fail
      go_loopw [12] (fun i wr => ∃ (k : Nat) (Ay : Option Addr) (cy : Nat) (Py : Option Addr) (qy : Nat), k ≤ n ∧ i = .int .i64 k ∧ Box wr ya [.slice Ay ns cy, .slice Py k qy, .int .i64 dl, .bool false] ∧ Hid (DkAt wr (Out [ya, xa]) (.slice Ay ns cy) (.slice Py k qy) (d.wait P k)) ∧ Box wr xa [.slice Ax ns cx, .slice Px 0 qx, .int .i64 xl, .bool xs] ∧ Hid (DkAt wr (Out [ya, xa]) (.slice Ax ns cx) (.slice Px 0 qx) x) ∧ Box wr X0a [.slice As ns cs, .slice Ap 0 cp, .int .i64 dl, .bool false] ∧ Hid (AcsAt wr (Out [ya, xa]) (.slice Av n cv) sc) ∧ Below w.heap.size w wr) (fun i _ => n - (intOf i).toNat)
      case atStart => exact ⟨0, As, cs, Ap, cp, Nat.zero_le _, rfl, Y, hDw, X, hDx, X0, hA, hB⟩
      case round =>
        clear X hDx Y X0 hDw hA hB HDI
        obtain ⟨k, Ay, cy, Py, qy, hk, rfl, Y, hDy, X, hDx, X0, hA, hB⟩ := hrel
        have HDI : DkIs (d.wait P k) dl false := ⟨hd.out.left, rfl⟩
        rcases Nat.lt_or_ge k n with hlt | hge
        rotate_left
        · obtain rfl : k = n := by omega
          have hkn : decide ((k : Int) < (k : Int)) = false := decide_eq_false (by omega)
          have hL2 : InW [ya, xa] wr := ((InW.nil wr).cons X.lt).cons Y.lt
          obtain ⟨z0, z1, z2, z3, z4, z5, z6, z7, z8⟩ := box_facts Y
          go_wp2_with fail
          refine (dSync_at hDy HDI).mono ?_
          rintro e wy hh
          obtain ⟨Au, cu, Pu, qu, rfl, Du, hb⟩ := RetDk.is hh hL2 HT H1 H2 (Lib.hid hxi.out.left) (Lib.hid hxi.out.stopped)
          clear hh z0 z1 z2 z3 z4 z5 z6 z7 z8 hDy
          replace X := X.later hb
          replace Y := Y.later hb
          replace hDx := dk_later hDx hb
          replace hB := hB.trans (hb.mono hB.size)
          clear hb hL2
          obtain ⟨z0, z1, z2, z3, z4, z5, z6, z7, z8⟩ := box_facts Y
          obtain ⟨y0, y1, y2, y3, _, _, _, _, y8⟩ := box_facts X
          have her : ((er : Int) == er) = true := by simp
          go_wp2_with fail
          refine (dSame_is (t := true) (dk_put4 (by simp) hDx _ _ _ _) (dk_put4 (by simp) Du _ _ _ _) hxi.out hxi.out (Lib.hid (sameD_refl x))).mono ?_
          rintro e wq ⟨rfl, hb⟩
          have hB2 := (below_put4 hB hgy _ _ _ _).trans (hb.mono (by first | exact hB.size | (simp; exact hB.size)))
          clear hb z0 z1 z2 z3 z4 z5 z6 z7 z8 y0 y1 y2 y3 y8
          go_wp2_with fail
          go_ret
          exact ⟨rfl, hB2⟩
        obtain ⟨ab, ao, rfl, habL, habz, a0, a1, a2⟩ := hA.out.cell (k := k) (by rw [hscn.out]; exact hlt)
        have hw : P[k]'(by rw [hPn.out]; exact hlt) = acW ns (sc[k]'(by rw [hscn.out]; exact hlt)).at'.toNat (sc[k]'(by rw [hscn.out]; exact hlt)).byte := by simp only [hP.out, List.getElem_map]
        generalize sc[k]'(by rw [hscn.out]; exact hlt) = act at a0 a1 a2 hw
        obtain ⟨asy, aat, aby⟩ := act
        dsimp only at a0 a1 a2 hw
        have y0 : wr.cell? ⟨X0a, 0, none⟩ = some (.slice As ns cs) := X0.cell 0
        have yz := X0.lt
        have hat : aat.toNat < 256 := aat.toNat_lt
        generalize aat.toNat = at' at a1 hw hat
        have hkn : (k : Int) < (n : Int) := by omega
        have hrem : Int.tmod (at' : Int) (ns : Int) = ((at' % ns : Nat) : Int) := rfl
        have hrem2 : (at' : Int) % (ns : Int) = ((at' % ns : Nat) : Int) := rfl
        unfold acW at hw
        have hzz := wait_write (k := k) (i := at' % ns) (b := aby) hok.out hPo.out (by rw [hPn.out]; omega) (by rw [hPn.out]; exact hlt) hw
        generalize at' % ns = iv at hzz hw hrem hrem2
        clear hrem2
        have hxL := X.lt
        have hyL := Y.lt
        obtain ⟨W, hWr⟩ : ∃ W : World, W = wr := ⟨_, rfl⟩
        subst hWr
        have hL2 : InW [ya, xa] W := ((InW.nil W).cons hxL).cons hyL
        have hS : ∀ b, W.heap.size ≤ b → Out [ya, xa] b := fun b hb hc => by
          simp only [List.mem_cons, List.not_mem_nil, or_false] at hc
          omega
        have hpk : (d.wait P (k + 1)).pending.length = k + 1 := by show (P.take (k + 1)).length = _; rw [List.length_take, hPn.out]; omega
        have hwi : (IntKind.i64.wrap (at' : Int)).tmod (ns : Int) = (iv : Int) := by rw [IntWalk.i64_in _ (by omega)]; exact hrem
        rw [← hwi] at hzz
        have HK := Lib.hid (wrCall hDy HDI hL2 hzz (ns := ns) hsl.out (np' := k + 1) hpk (l' := dl) hd.out.left (s' := false) rfl)
        have x0 : W.cell? ⟨ya, 0, none⟩ = some (.slice Ay ns cy) := Y.cell 0
        have x1 : W.cell? ⟨ya, 1, none⟩ = some (.slice Py k qy) := Y.cell 1
        have x2 : W.cell? ⟨ya, 2, none⟩ = some (.int .i64 dl) := Y.cell 2
        have x3 : W.cell? ⟨ya, 3, none⟩ = some (.bool false) := Y.cell 3
        have HS := Lib.hid hS
        have HS2 : Hid (∀ b, W.heap.size < b → Out [W.heap.size, ya, xa] b) := Lib.hid fun b hb hc => by
          simp only [List.mem_cons, List.not_mem_nil, or_false] at hc
          omega
        have HS3 : Hid (Out [W.heap.size + 1, ya, xa] W.heap.size) := Lib.hid fun hc => by
          simp only [List.mem_cons, List.not_mem_nil, or_false] at hc
          omega
        have HW := Lib.hid hw
        clear hS hpk hzz hw hwi
        go_upto_region 18 with fail
        go_cut [13, 14] from 88 to 117 (fun s13 s14 wx => s14 = .int .i64 0 ∧ ∃ (za : Nat) (Az : Option Addr) (cz : Nat) (Pz : Option Addr) (qz : Nat), s13 = .pointer (some ⟨za, 0, none⟩) ∧ Box wx za [.slice Az ns cz, .slice Pz (k + 1) qz, .int .i64 dl, .bool false] ∧ Hid (DkAt wx (Out [ya, xa]) (.slice Az ns cz) (.slice Pz (k + 1) qz) (d.wait P (k + 1))) ∧ W.heap.size ≤ za ∧ Below W.heap.size W wx)
        case first =>
          have hSS : Hid (∀ E, Below W.heap.size W E → E.cell? ⟨ya, 0, none⟩ = some (.slice Ay ns cy) ∧ E.cell? ⟨ya, 1, none⟩ = some (.slice Py k qy) ∧ E.cell? ⟨ya, 2, none⟩ = some (.int .i64 dl) ∧ E.cell? ⟨ya, 3, none⟩ = some (.bool false) ∧ E.cell? ⟨X0a, 0, none⟩ = some (.slice As ns cs) ∧ E.cell? ⟨ab, ao + k * 3 + 1, none⟩ = some ((.int .u8 (at' : Int))) ∧ E.cell? ⟨ab, ao + k * 3 + 2, none⟩ = some (.int .u8 (aby.toNat : Int))) := Lib.hid fun E h => ⟨(h.cell (p := ⟨ya, 0, none⟩) hyL).trans x0, (h.cell (p := ⟨ya, 1, none⟩) hyL).trans x1, (h.cell (p := ⟨ya, 2, none⟩) hyL).trans x2, (h.cell (p := ⟨ya, 3, none⟩) hyL).trans x3, (h.cell (p := ⟨X0a, 0, none⟩) yz).trans y0, (h.cell (p := ⟨ab, ao + k * 3 + 1, none⟩) habz).trans a1, (h.cell (p := ⟨ab, ao + k * 3 + 2, none⟩) habz).trans a2⟩
          go_region_held3 (fun w' => w'.cell? ⟨ya, 0, none⟩ = some (.slice Ay ns cy) ∧ w'.cell? ⟨ya, 1, none⟩ = some (.slice Py k qy) ∧ w'.cell? ⟨ya, 2, none⟩ = some (.int .i64 dl) ∧ w'.cell? ⟨ya, 3, none⟩ = some (.bool false) ∧ w'.cell? ⟨X0a, 0, none⟩ = some (.slice As ns cs) ∧ w'.cell? ⟨ab, ao + k * 3 + 1, none⟩ = some ((.int .u8 (at' : Int))) ∧ w'.cell? ⟨ab, ao + k * 3 + 2, none⟩ = some (.int .u8 (aby.toNat : Int))) ((refine hSS.out _ ?_; repeat (first | with_reducible assumption | ((with_reducible refine Below.setCell ?_ ?_ _); rotate_left; first | exact Nat.le_refl _ | assumption | (simp <;> omega)) | ((with_reducible refine Below.alloc ?_ ?_ _); rotate_left; first | exact Nat.le_refl _ | assumption | (simp <;> omega)) | with_reducible exact Below.refl _ _ | with_reducible refine Below.drew ?_))) (first | (go_at_call 19; first | (refine (HK.out.1 _ _ ?_ ?_ ?_).mono ?_; (focus (simp; done)); exact ((Below.refl W.heap.size W).alloc (Nat.le_refl _) _).drew; exact (bs_lit W aby _ (HS.out _ (Nat.le_refl _))).keep (Keeps.of (Below.refl _ _).drew); rintro e wz ⟨Az, cz, Pz, qz, rfl, Dz, hbW, hzs, hbz⟩; have hWs := hbW.size) | (refine (HK.out.2.1 _ _ ?_ ?_ ?_ ?_).mono ?_; (focus (simp; done)); (with_reducible rfl); exact (((Below.refl W.heap.size W).alloc (Nat.le_refl _) _).alloc (by simp) _).drew; exact (bs_litAt (W.alloc _) aby _ (by simp) (HS2.out _ (by omega))).keep (Keeps.of (Below.refl _ _).drew); rintro e wz ⟨Az, cz, Pz, qz, rfl, Dz, hbW, hzs, hbz⟩; have hWs := hbW.size; have Z := ((Box.new W [.slice none 0 0, .slice none 0 0, .int .i64 0, .bool false] 25).alloc (.cells #[.int .u8 (aby.toNat : Int)] 5)).drew.later hbz; obtain ⟨z0, z1, z2, z3, z4, z5, z6, z7, z8⟩ := box_facts Z) | (refine (HK.out.2.2 _ _ ?_ ?_ ?_ ?_).mono ?_; (focus (simp; done)); (with_reducible rfl); exact (((Below.refl W.heap.size W).alloc (Nat.le_refl _) _).alloc (by simp) _).drew; exact ((bs_lit W aby _ (HS3.out)).keep (Keeps.of ((Below.refl _ _).alloc (Nat.le_refl _) _))).keep (Keeps.of (Below.refl _ _).drew); rintro e wz ⟨Az, cz, Pz, qz, rfl, Dz, hbW, hzs, hbz⟩; have hWs := hbW.size; have Z := (Box.newAt (w := W.alloc (.cells #[.int .u8 (aby.toNat : Int)] 5)) (n := W.heap.size + 1) [.slice none 0 0, .slice none 0 0, .int .i64 0, .bool false] 25 (by simp)).drew.later hbz; obtain ⟨z0, z1, z2, z3, z4, z5, z6, z7, z8⟩ := box_facts Z)))
          all_goals (go_wp2_with fail; go_meet)
          all_goals
            first
            | exact ⟨rfl, _, Az, cz, Pz, qz, rfl, Box.new wz [.slice Az ns cz, .slice Pz (k + 1) qz, .int .i64 dl, .bool false] 25, dk_later Dz ((Below.refl _ _).alloc (Nat.le_refl _) _), hbW.size, hbW.alloc hbW.size _⟩
            | exact ⟨rfl, _, Az, cz, Pz, qz, rfl, Z.put4 (.slice Az ns cz) (.slice Pz (k + 1) qz) (.int .i64 dl) (.bool false), dk_less (dk_put4 (by simp) Dz (.slice Az ns cz) (.slice Pz (k + 1) qz) (.int .i64 dl) (.bool false)), by omega, below_put4 hbW (by omega) (.slice Az ns cz) (.slice Pz (k + 1) qz) (.int .i64 dl) (.bool false)⟩
        case rest =>
          obtain ⟨rfl, za, Az, cz, Pz, qz, rfl, Z, Dz, hza, hb⟩ := hcut
          clear HK HS HS2 HS3 x0 x1 x2 x3 y0 yz a0 a1 a2 hrem hDy
          have hny : ya ≠ za := by omega
          replace X := X.later hb
          replace Y := Y.later hb
          replace X0 := X0.later hb
          replace hDx := dk_later hDx hb
          replace hA := acs_later hA hb
          replace hB := hB.trans (hb.mono hB.size)
          clear hb hL2 hxL hyL habz hza
          obtain ⟨z0, z1, z2, z3, z4, z5, z6, z7, z8⟩ := box_facts Z
          obtain ⟨y0, y1, y2, y3, y4, y5, y6, y7, y8⟩ := box_facts Y
          go_wp2_with fail
          refine ⟨⟨k + 1, Az, cz, Pz, qz, hlt, by go_num, Y.put4 _ _ _ _, dk_put4 (by simp) Dz _ _ _ _, box_past X hxy _ _ _ _, dk_put4 (by simp) hDx _ _ _ _, box_past X0 hy0 _ _ _ _, acs_put4 (by simp) hA _ _ _ _, below_put4 hB hgy _ _ _ _⟩, by simp [intOf]; omega⟩
    go_wp2_with fail
    have hE0 : Hid (eachT d P 0 = (d, 0)) := Lib.hid (each_zero hok.out hpl.out hd.out.stopped hPo.out (by rw [hPn.out]; omega))
    go_loopw [7, 8] (fun e i wr => ∃ (k : Nat) (x : Dk) (er : Int) (xl : Int) (xs : Bool) (Ax : Option Addr) (cx : Nat) (Px : Option Addr) (qx : Nat), k ≤ n ∧ i = .int .i64 k ∧ e = .int .i64 er ∧ Hid (eachT d P k = (x, er)) ∧ Hid (DkIs x xl xs) ∧ Box wr xa [.slice Ax ns cx, .slice Px 0 qx, .int .i64 xl, .bool xs] ∧ Hid (DkAt wr (Out [ya, xa]) (.slice Ax ns cx) (.slice Px 0 qx) x) ∧ Box wr ya [.slice As ns cs, .slice Ap 0 cp, .int .i64 dl, .bool false] ∧ Box wr X0a [.slice As ns cs, .slice Ap 0 cp, .int .i64 dl, .bool false] ∧ Hid (DkAt wr (Out [ya, xa]) (.slice As ns cs) (.slice Ap 0 cp) d) ∧ Hid (AcsAt wr (Out [ya, xa]) (.slice Av n cv) sc) ∧ Below w.heap.size w wr) (fun _ i _ => n - (intOf i).toNat)
    case atStart => exact ⟨0, d, 0, dl, false, As, cs, Ap, cp, Nat.zero_le _, rfl, rfl, hE0, hd, X, hD, Y, X0, hD, hA, hB⟩
    case round =>
      clear X Y X0 hD hA hB hE0
      obtain ⟨k, x, er, xl, xs, Ax, cx, Px, qx, hk, rfl, rfl, hE, hxi, X, hDx, Y, X0, hD, hA, hB⟩ := hrel
      obtain ⟨f1, f2, f3, f4⟩ := each_facts hok.out hPo.out (by rw [hPn.out]; omega) (by rw [hPn.out]; exact hk) hE.out
      have hend : ¬ (k < n ∧ er = 0) → Hid (eachT d P n = (x, er)) := fun hno => by
        rcases Nat.lt_or_ge k n with hlt | hge
        · rcases f4 with ⟨her, _, _⟩ | ⟨her, hlv⟩
          · exact absurd ⟨hlt, her⟩ hno
          · have := each_stop hok.out hPo.out (by rw [hPn.out]; omega) (by rw [hPn.out]; exact hk) hlv
            rw [hPn.out] at this
            exact Lib.hid (this.trans hE.out)
        · obtain rfl : k = n := by omega
          exact hE
      rcases Nat.lt_or_ge k n with hlt | hge
      rotate_left
      · have hX := hend (by omega)
        have hkn : decide ((k : Int) < (n : Int)) = false := decide_eq_false (by omega)
        clear hend f1 f2 f3 f4 hE
        go_wp2_with fail
        go_meet
        exact ⟨x, er, xl, xs, Ax, cx, Px, qx, rfl, hX, hxi, X, hDx, Y, X0, hD, hA, hB⟩
      rcases f4 with ⟨her, hxs, hlv⟩ | ⟨her, hlv⟩
      rotate_left
      · have hX := hend (by omega)
        have hkn : decide ((k : Int) < (n : Int)) = true := decide_eq_true (by omega)
        subst her
        clear hend f1 f2 f3 hE
        go_wp2_with fail
        go_meet
        exact ⟨x, 40, xl, xs, Ax, cx, Px, qx, rfl, hX, hxi, X, hDx, Y, X0, hD, hA, hB⟩
      clear hend
      subst her
      have hxs2 : xs = false := by rw [← hxi.out.stopped]; exact hxs
      subst hxs2
      obtain ⟨ab, ao, rfl, habL, habz, a0, a1, a2⟩ := hA.out.cell (k := k) (by rw [hscn.out]; exact hlt)
      have hw : P[k]'(by rw [hPn.out]; exact hlt) = acW ns (sc[k]'(by rw [hscn.out]; exact hlt)).at'.toNat (sc[k]'(by rw [hscn.out]; exact hlt)).byte := by simp only [hP.out, List.getElem_map]
      generalize sc[k]'(by rw [hscn.out]; exact hlt) = act at a0 a1 a2 hw
      obtain ⟨asy, aat, aby⟩ := act
      dsimp only at a0 a1 a2 hw
      have y0 : wr.cell? ⟨X0a, 0, none⟩ = some (.slice As ns cs) := X0.cell 0
      have yz := X0.lt
      have hat : aat.toNat < 256 := aat.toNat_lt
      generalize aat.toNat = at' at a1 hw hat
      have hkn : (k : Int) < (n : Int) := by omega
      have hrem : Int.tmod (at' : Int) (ns : Int) = ((at' % ns : Nat) : Int) := rfl
      go_wp2_with fail
      go_quiet (fail)
      go_wp2_with fail
      have hdn := below_drewN (Below.refl wr.heap.size wr) nq
      replace X := X.later hdn
      replace Y := Y.later hdn
      replace X0 := X0.later hdn
      replace hDx := dk_later hDx hdn
      replace hD := dk_later hD hdn
      replace hA := acs_later hA hdn
      replace hB := hB.trans (hdn.mono hB.size)
      have a2 : (wr.drewN nq).cell? ⟨ab, ao + k * 3 + 2, none⟩ = some (.int .u8 (aby.toNat : Int)) := (hdn.cell habz).trans a2
      have habz : ab < (wr.drewN nq).heap.size := Nat.lt_of_lt_of_le habz hdn.size
      clear a0 a1 y0 yz hdn
      generalize wr.drewN nq = W at X Y X0 hDx hD hA hB a2 habz ⊢
      have hiv : (at' : Int) % (ns : Int) = ((at' % ns : Nat) : Int) := rfl
      rw [hiv]
      have hzz := each_write (b := aby) (i := at' % ns) f3 hxs f2 (f1.trans rfl) hPo.out (by rw [hPn.out]; exact hlt) hw
      unfold acW at hw
      generalize at' % ns = iv at hzz hw ⊢
      clear hiv hrem
      have hxL := X.lt
      have hyL := Y.lt
      have hL2 : InW [ya, xa] W := ((InW.nil W).cons hxL).cons hyL
      have hS : ∀ b, W.heap.size ≤ b → Out [ya, xa] b := fun b hb hc => by
        simp only [List.mem_cons, List.not_mem_nil, or_false] at hc
        omega
      have HK := Lib.hid (wrCall hDx hxi.out hL2 hzz (f1.trans hsl.out) (np' := 1) rfl (l' := xl) hxi.out.left (s' := false) rfl)
      have x0 : W.cell? ⟨xa, 0, none⟩ = some (.slice Ax ns cx) := X.cell 0
      have x1 : W.cell? ⟨xa, 1, none⟩ = some (.slice Px 0 qx) := X.cell 1
      have x2 : W.cell? ⟨xa, 2, none⟩ = some (.int .i64 xl) := X.cell 2
      have x3 : W.cell? ⟨xa, 3, none⟩ = some (.bool false) := X.cell 3
      have HS := Lib.hid hS
      have HS2 : Hid (∀ b, W.heap.size < b → Out [W.heap.size, ya, xa] b) := Lib.hid fun b hb hc => by
        simp only [List.mem_cons, List.not_mem_nil, or_false] at hc
        omega
      have HS3 : Hid (Out [W.heap.size + 1, ya, xa] W.heap.size) := Lib.hid fun hc => by
        simp only [List.mem_cons, List.not_mem_nil, or_false] at hc
        omega
      clear hS
      go_cut [10, 11] from 49 to 87 (fun s10 s11 wx => s11 = .int .i64 0 ∧ ∃ (za : Nat) (Az : Option Addr) (cz : Nat) (Pz : Option Addr) (qz : Nat), s10 = .pointer (some ⟨za, 0, none⟩) ∧ Box wx za [.slice Az ns cz, .slice Pz 1 qz, .int .i64 xl, .bool false] ∧ Hid (DkAt wx (Out [ya, xa]) (.slice Az ns cz) (.slice Pz 1 qz) ⟨x.sectors, [⟨(iv : Int), padTo [aby]⟩], x.left, false⟩) ∧ W.heap.size ≤ za ∧ Below W.heap.size W wx)
      case first =>
        have hSS : Hid (∀ E, Below W.heap.size W E → E.cell? ⟨xa, 0, none⟩ = some (.slice Ax ns cx) ∧ E.cell? ⟨xa, 1, none⟩ = some (.slice Px 0 qx) ∧ E.cell? ⟨xa, 2, none⟩ = some (.int .i64 xl) ∧ E.cell? ⟨xa, 3, none⟩ = some (.bool false) ∧ E.cell? ⟨ab, ao + k * 3 + 2, none⟩ = some (.int .u8 (aby.toNat : Int))) := Lib.hid fun E h => ⟨(h.cell (p := ⟨xa, 0, none⟩) hxL).trans x0, (h.cell (p := ⟨xa, 1, none⟩) hxL).trans x1, (h.cell (p := ⟨xa, 2, none⟩) hxL).trans x2, (h.cell (p := ⟨xa, 3, none⟩) hxL).trans x3, (h.cell (p := ⟨ab, ao + k * 3 + 2, none⟩) habz).trans a2⟩
        go_region_held3 (fun w' => w'.cell? ⟨xa, 0, none⟩ = some (.slice Ax ns cx) ∧ w'.cell? ⟨xa, 1, none⟩ = some (.slice Px 0 qx) ∧ w'.cell? ⟨xa, 2, none⟩ = some (.int .i64 xl) ∧ w'.cell? ⟨xa, 3, none⟩ = some (.bool false) ∧ w'.cell? ⟨ab, ao + k * 3 + 2, none⟩ = some (.int .u8 (aby.toNat : Int))) ((refine hSS.out _ ?_; repeat (first | with_reducible assumption | ((with_reducible refine Below.setCell ?_ ?_ _); rotate_left; first | exact Nat.le_refl _ | assumption | (simp <;> omega)) | ((with_reducible refine Below.alloc ?_ ?_ _); rotate_left; first | exact Nat.le_refl _ | assumption | (simp <;> omega)) | with_reducible exact Below.refl _ _ | with_reducible refine Below.drew ?_))) (first | (go_at_call 19; first | (refine (HK.out.1 _ _ ?_ ?_ ?_).mono ?_; (focus (simp; done)); exact ((Below.refl W.heap.size W).alloc (Nat.le_refl _) _).drew; exact (bs_lit W aby _ (HS.out _ (Nat.le_refl _))).keep (Keeps.of (Below.refl _ _).drew); rintro e wz ⟨Az, cz, Pz, qz, rfl, Dz, hbW, hzs, hbz⟩; have hWs := hbW.size) | (refine (HK.out.2.1 _ _ ?_ ?_ ?_ ?_).mono ?_; (focus (simp; done)); (with_reducible rfl); exact (((Below.refl W.heap.size W).alloc (Nat.le_refl _) _).alloc (by simp) _).drew; exact (bs_litAt (W.alloc _) aby _ (by simp) (HS2.out _ (by omega))).keep (Keeps.of (Below.refl _ _).drew); rintro e wz ⟨Az, cz, Pz, qz, rfl, Dz, hbW, hzs, hbz⟩; have hWs := hbW.size; have Z := ((Box.new W [.slice none 0 0, .slice none 0 0, .int .i64 0, .bool false] 25).alloc (.cells #[.int .u8 (aby.toNat : Int)] 5)).drew.later hbz; obtain ⟨z0, z1, z2, z3, z4, z5, z6, z7, z8⟩ := box_facts Z) | (refine (HK.out.2.2 _ _ ?_ ?_ ?_ ?_).mono ?_; (focus (simp; done)); (with_reducible rfl); exact (((Below.refl W.heap.size W).alloc (Nat.le_refl _) _).alloc (by simp) _).drew; exact ((bs_lit W aby _ (HS3.out)).keep (Keeps.of ((Below.refl _ _).alloc (Nat.le_refl _) _))).keep (Keeps.of (Below.refl _ _).drew); rintro e wz ⟨Az, cz, Pz, qz, rfl, Dz, hbW, hzs, hbz⟩; have hWs := hbW.size; have Z := (Box.newAt (w := W.alloc (.cells #[.int .u8 (aby.toNat : Int)] 5)) (n := W.heap.size + 1) [.slice none 0 0, .slice none 0 0, .int .i64 0, .bool false] 25 (by simp)).drew.later hbz; obtain ⟨z0, z1, z2, z3, z4, z5, z6, z7, z8⟩ := box_facts Z)))
        all_goals (go_wp2_with fail; go_meet)
        all_goals
          first
          | exact ⟨rfl, _, Az, cz, Pz, qz, rfl, Box.new wz [.slice Az ns cz, .slice Pz 1 qz, .int .i64 xl, .bool false] 25, dk_later Dz ((Below.refl _ _).alloc (Nat.le_refl _) _), hbW.size, hbW.alloc hbW.size _⟩
          | exact ⟨rfl, _, Az, cz, Pz, qz, rfl, Z.put4 (.slice Az ns cz) (.slice Pz 1 qz) (.int .i64 xl) (.bool false), dk_less (dk_put4 (by simp) Dz (.slice Az ns cz) (.slice Pz 1 qz) (.int .i64 xl) (.bool false)), by omega, below_put4 hbW (by omega) (.slice Az ns cz) (.slice Pz 1 qz) (.int .i64 xl) (.bool false)⟩
      case rest =>
        obtain ⟨rfl, za, Az, cz, Pz, qz, rfl, Z, Dz, hza, hb⟩ := hcut
        clear HK HS HS2 HS3 x0 x1 x2 x3 hzz
        have hnx : xa ≠ za := by omega
        replace X := X.later hb
        replace Y := Y.later hb
        replace X0 := X0.later hb
        replace hD := dk_later hD hb
        replace hA := acs_later hA hb
        replace hB := hB.trans (hb.mono hB.size)
        have hL3 := hL2.later hb.size
        clear hb hDx hL2 hxL hyL habz a2 hza
        have hst := each_step hok.out hPo.out (by rw [hPn.out]; omega) (by rw [hPn.out]; exact hlt) hlv (w := ⟨(iv : Int), padTo [aby]⟩) hw
        rw [hE.out] at hst
        dsimp only at hst
        obtain ⟨x', er', hX'⟩ : ∃ x' er', eachT d P (k + 1) = (x', er') := ⟨_, _, rfl⟩
        rw [hX'] at hst
        obtain ⟨g1, g2, g3, g4⟩ := each_facts hok.out hPo.out (by rw [hPn.out]; omega) (by rw [hPn.out]; exact hlt) hX'
        obtain ⟨xl', hxl'⟩ : ∃ l, x'.left = l := ⟨_, rfl⟩
        obtain ⟨xs', hxs'⟩ : ∃ l, x'.stopped = l := ⟨_, rfl⟩
        have HE := Lib.hid hX'
        have HT := Lib.hid hst
        have H1 : Hid (x'.sectors.length = ns) := Lib.hid (g1.trans hsl.out)
        have H2 : Hid (x'.pending.length = 0) := Lib.hid (by rw [g2]; rfl)
        have H3 := Lib.hid hxl'
        have H4 := Lib.hid hxs'
        have hDl : DkIs ⟨x.sectors, [⟨(iv : Int), padTo [aby]⟩], x.left, false⟩ xl false := ⟨hxi.out.left, rfl⟩
        clear f1 f2 f3 hE hst hX' g1 g2 g3 g4 hxl' hxs' hw hxs hlv
        obtain ⟨z0, z1, z2, z3, z4, z5, z6, z7, z8⟩ := box_facts Z
        go_wp2_with fail
        refine (dSync_at Dz hDl).mono ?_
        rintro e wy hh
        obtain ⟨Au, cu, Pu, qu, rfl, Du, hb⟩ := RetDk.is hh hL3 HT H1 H2 H3 H4
        clear hh z0 z1 z2 z3 z4 z5 z6 z7 z8 Z Dz
        replace X := X.later hb
        replace Y := Y.later hb
        replace X0 := X0.later hb
        replace hD := dk_later hD hb
        replace hA := acs_later hA hb
        replace hB := hB.trans (hb.mono hB.size)
        clear hb
        obtain ⟨z0, z1, z2, z3, z4, z5, z6, z7, z8⟩ := box_facts X
        go_wp2_with fail
        refine ⟨⟨k + 1, x', er', xl', xs', Au, cu, Pu, qu, hlt, by go_num, rfl, HE, Lib.hid ⟨H3.out, H4.out⟩, X.put4 _ _ _ _, dk_put4 (by simp) Du _ _ _ _, box_past Y (by omega) _ _ _ _, box_past X0 hx0 _ _ _ _, dk_put4 (by simp) hD _ _ _ _, acs_put4 (by simp) hA _ _ _ _, below_put4 hB hgx _ _ _ _⟩, by simp [intOf]; omega⟩

end Go.Proofs.Ytdmeogkdoeaemaa
