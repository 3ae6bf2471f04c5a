/-
  Contract of Sync of the reference of chapter 4. (Printed by gen_dx.py.)
-/
import Derived.Test.YthlidhfahaalgaaQDX
import Derived.Deep.DeepCutAuto
import Derived.Deep.RegionHeld3
namespace Go.Proofs.Ythlidhfahaalgaa
open Go.RowKit
attribute [local go_sem ↓ high] app_named cop_named

set_option maxRecDepth 100000 in
set_option maxHeartbeats 16000000 in
theorem dRSync_3 (d : Dk) (As : Option Addr) (ns cs : Nat) (Ap : Option Addr) (np cp : Nat) (j : Nat) (S : Nat → Prop) (w : World) (hD : Hid (DkAt w S (.slice As ns cs) (.slice Ap np cp) d)) (hdl : Hid (d.left = (j : Int))) (hds : Hid (d.stopped = false)) (hc : Hid (d.checkT = 0)) (hr : Hid (d.runs = true)) (hnp : Hid (d.pending.length = np)) (hns : Hid (d.sectors.length = ns)) (hj : j < np) (hs : Hid (syncT d = (⟨tornS d, [], 0, true⟩, 40))) : Calls Try.prog 48 #[.agg #[.slice As ns cs, .slice Ap np cp, .int .i64 j, .bool false]] w (RetDk (syncT d) S w) := by
  have HB0 : Below w.heap.size w ((w.alloc (.cells #[.slice As ns cs, .slice Ap np cp, .int .i64 j, .bool false] 25)).alloc (.cells #[.slice none 0 0, .slice none 0 0, .int .i64 0, .bool false] 25)) := (((Below.refl w.heap.size w).alloc (by simp <;> omega) (.cells #[.slice As ns cs, .slice Ap np cp, .int .i64 j, .bool false] 25)).alloc (by simp <;> omega) (.cells #[.slice none 0 0, .slice none 0 0, .int .i64 0, .bool false] 25))
  have HD0 := Lib.hid (hD.out.keep (Keeps.of HB0))
  obtain ⟨k1, k2, k3, k4, k5, k6, k7⟩ := okB_parts (runs_ok hr.out).1
  have HIN : Hid (∀ x ∈ d.pending, 0 ≤ x.at' ∧ x.at' < (d.sectors.length : Int)) := fun x hx => ⟨(k6 x hx).1, (k6 x hx).2.1⟩
  have H128 : Hid (∀ x ∈ d.pending, x.data.length = 128) := fun x hx => (k6 x hx).2.2
  have H128s : Hid (∀ x ∈ d.sectors, x.length = 128) := k7
  have hns4 : Hid (d.sectors.length ≤ 1048576) := by rw [Hid]; omega
  have hns0 : 0 < ns := by rw [← hns.out]; omega
  have hnp4 : np ≤ 4096 := by rw [← hnp.out]; omega
  clear k1 k2 k3 k4 k5 k6 k7
  go_enter Try.func48, Try.ntmps48
  go_wp2_with fail
  refine (dRCheck_at hc HD0.out hdl hds).mono ?_
  rintro e w1 ⟨rfl, hb⟩
  have X0 := (((Box.newAt (n := w.heap.size) [.slice As ns cs, .slice Ap np cp, .int .i64 j, .bool false] 25 (by simp)).alloc _)).later hb
  have R := ((Box.newAt (n := w.heap.size + 1) [.slice none 0 0, .slice none 0 0, .int .i64 0, .bool false] 25 (by simp))).later hb
  have hB : Below w.heap.size w w1 := ((((Below.refl w.heap.size w).alloc (by simp <;> omega) _).alloc (by simp <;> omega) _)).trans (hb.mono (by simp <;> omega))
  clear hb
  have hR1 : w.heap.size + 1 < w1.heap.size := R.lt
  obtain ⟨base, hbase⟩ : ∃ base, w1.heap.size = base := ⟨_, rfl⟩
  have hBs : w.heap.size + 1 < base := by rw [← hbase]; exact hR1
  have hle1 : base ≤ w1.heap.size := Nat.le_of_eq hbase.symm
  have hle2 : w1.heap.size ≤ base := Nat.le_of_eq hbase
  clear hbase
  have nS : Hid (∀ x, base ≤ x → ¬ Old S w x) := fun x hx h => by have := h.2; omega
  have X0c0 : w1.cell? ⟨w.heap.size, 0, none⟩ = some (.slice As ns cs) := X0.cell 0
  have X0f0 : w1.frozen? ⟨w.heap.size, 0, none⟩ = false := X0.free 0
  have X0c1 : w1.cell? ⟨w.heap.size, 1, none⟩ = some (.slice Ap np cp) := X0.cell 1
  have X0f1 : w1.frozen? ⟨w.heap.size, 1, none⟩ = false := X0.free 1
  have X0c2 : w1.cell? ⟨w.heap.size, 2, none⟩ = some (.int .i64 j) := X0.cell 2
  have X0f2 : w1.frozen? ⟨w.heap.size, 2, none⟩ = false := X0.free 2
  have X0c3 : w1.cell? ⟨w.heap.size, 3, none⟩ = some (.bool false) := X0.cell 3
  have X0f3 : w1.frozen? ⟨w.heap.size, 3, none⟩ = false := X0.free 3
  have X0z : w.heap.size < w1.heap.size := X0.lt
  have Rc0 : w1.cell? ⟨w.heap.size + 1, 0, none⟩ = some (.slice none 0 0) := R.cell 0
  have Rf0 : w1.frozen? ⟨w.heap.size + 1, 0, none⟩ = false := R.free 0
  have Rc1 : w1.cell? ⟨w.heap.size + 1, 1, none⟩ = some (.slice none 0 0) := R.cell 1
  have Rf1 : w1.frozen? ⟨w.heap.size + 1, 1, none⟩ = false := R.free 1
  have Rc2 : w1.cell? ⟨w.heap.size + 1, 2, none⟩ = some (.int .i64 0) := R.cell 2
  have Rf2 : w1.frozen? ⟨w.heap.size + 1, 2, none⟩ = false := R.free 2
  have Rc3 : w1.cell? ⟨w.heap.size + 1, 3, none⟩ = some (.bool false) := R.cell 3
  have Rf3 : w1.frozen? ⟨w.heap.size + 1, 3, none⟩ = false := R.free 3
  have Rz : w.heap.size + 1 < w1.heap.size := R.lt
  go_wp2_with fail
  clear X0c0 X0f0 X0c1 X0f1 X0c2 X0f2 X0c3 X0f3 X0z Rc0 Rf0 Rc1 Rf1 Rc2 Rf2 Rc3 Rf3 Rz
  go_cut [6] (fun s6 wx => ∃ (xa gg cc : Nat), s6 = .pointer (some ⟨xa, 0, none⟩) ∧ Box wx xa [.slice (some ⟨gg, 0, none⟩) ns cc, .slice none 0 0, .int .i64 j, .bool false] ∧ Hid (OwnRw wx base (Old S w) (.slice (some ⟨gg, 0, none⟩) ns cc) d.sectors) ∧ Box wx (w.heap.size) [.slice As ns cs, .slice Ap np cp, .int .i64 j, .bool false] ∧ Box wx (w.heap.size + 1) [.slice none 0 0, .slice none 0 0, .int .i64 0, .bool false] ∧ Below w.heap.size w wx ∧ base ≤ xa ∧ base ≤ gg ∧ gg ≠ xa)
  case first =>
    have Bza : Below w.heap.size w (w1.alloc (.cells #[] 35)).drew := (hB.alloc hB.size (.cells #[] 35)).drew
    obtain ⟨ga, ca, xa, hra, Oa, hba, hga, gba, gla, gea⟩ := run_cloneR (w := (w1.alloc (.cells #[] 35)).drew) (a := w1.heap.size) (base := base) (by show (w1.heap.push _)[w1.heap.size]? = _; simp) (by omega) (hD.out.old.keep (Keeps.of Bza)).sectors (fun b h => by have := h.2; omega) hns4.out (by rw [hns.out]; exact hns0)
    have Ra : (appF #[22, 22] 22 #[.slice (some ⟨w1.heap.size, 0, none⟩) 0 0, .slice As ns cs]).run Try.prog (w1.alloc (.cells #[] 35)).drew = .ok (.slice (some ⟨ga, 0, none⟩) ns ca) xa := hra
    have X0a := ((X0.alloc (.cells #[] 35)).drew).keep (D := base) (by omega) hba
    have RRa := ((R.alloc (.cells #[] 35)).drew).keep (D := base) (by omega) hba
    have B1a : Below w.heap.size w xa := Bza.trans (hba.mono (by omega))
    have y0a : xa.cell? ⟨w.heap.size, 0, none⟩ = some (.slice As ns cs) := X0a.cell 0
    have y2a : xa.cell? ⟨w.heap.size, 2, none⟩ = some (.int .i64 j) := X0a.cell 2
    have yza : w.heap.size < xa.heap.size := X0a.lt
    have zza : base ≤ xa.heap.size := by have := hba.size; simp at this; omega
    clear hra hba Bza gea
    have Bzb : Below w.heap.size w ((w1.alloc (.cells #[] 35)).alloc (.cells #[.slice none 0 0, .slice none 0 0, .int .i64 0, .bool false] 25)).drew := ((hB.alloc hB.size (.cells #[] 35)).alloc (by have := hB.size; simp; omega) (.cells #[.slice none 0 0, .slice none 0 0, .int .i64 0, .bool false] 25)).drew
    obtain ⟨gb, cb, xb, hrb, Ob, hbb, hgb, gbb, glb, geb⟩ := run_cloneR (w := ((w1.alloc (.cells #[] 35)).alloc (.cells #[.slice none 0 0, .slice none 0 0, .int .i64 0, .bool false] 25)).drew) (a := w1.heap.size) (base := base) (by show ((w1.heap.push _).push _)[w1.heap.size]? = _; rw [Array.getElem?_push, if_neg (by simp), Array.getElem?_push_size]) (by omega) (hD.out.old.keep (Keeps.of Bzb)).sectors (fun b h => by have := h.2; omega) hns4.out (by rw [hns.out]; exact hns0)
    have Rb : (appF #[22, 22] 22 #[.slice (some ⟨w1.heap.size, 0, none⟩) 0 0, .slice As ns cs]).run Try.prog ((w1.alloc (.cells #[] 35)).alloc (.cells #[.slice none 0 0, .slice none 0 0, .int .i64 0, .bool false] 25)).drew = .ok (.slice (some ⟨gb, 0, none⟩) ns cb) xb := hrb
    have X0b := (((X0.alloc (.cells #[] 35)).alloc (.cells #[.slice none 0 0, .slice none 0 0, .int .i64 0, .bool false] 25)).drew).keep (D := base) (by omega) hbb
    have RRb := (((R.alloc (.cells #[] 35)).alloc (.cells #[.slice none 0 0, .slice none 0 0, .int .i64 0, .bool false] 25)).drew).keep (D := base) (by omega) hbb
    have B1b : Below w.heap.size w xb := Bzb.trans (hbb.mono (by omega))
    have y0b : xb.cell? ⟨w.heap.size, 0, none⟩ = some (.slice As ns cs) := X0b.cell 0
    have y2b : xb.cell? ⟨w.heap.size, 2, none⟩ = some (.int .i64 j) := X0b.cell 2
    have yzb : w.heap.size < xb.heap.size := X0b.lt
    have zzb : base ≤ xb.heap.size := by have := hbb.size; simp at this; omega
    have Pb : Box xb (w1.heap.size + 1) [.slice none 0 0, .slice none 0 0, .int .i64 0, .bool false] := ((Box.newAt (w := (w1.alloc (.cells #[] 35))) (n := w1.heap.size + 1) [.slice none 0 0, .slice none 0 0, .int .i64 0, .bool false] 25 (by simp)).drew).same (hgb.block _ (by simp <;> omega) (by simp))
    have p0b : xb.cell? ⟨w1.heap.size + 1, 0, none⟩ = some (.slice none 0 0) := Pb.cell 0
    have p1b : xb.cell? ⟨w1.heap.size + 1, 1, none⟩ = some (.slice none 0 0) := Pb.cell 1
    have p2b : xb.cell? ⟨w1.heap.size + 1, 2, none⟩ = some (.int .i64 0) := Pb.cell 2
    have p3b : xb.cell? ⟨w1.heap.size + 1, 3, none⟩ = some (.bool false) := Pb.cell 3
    have pf0b := Pb.free 0
    have pf1b := Pb.free 1
    have pf2b := Pb.free 2
    have pf3b := Pb.free 3
    have pzb := Pb.lt
    have gxb : gb ≠ w1.heap.size + 1 := by
      have h := geb
      simp at h
      omega
    clear hrb hbb Bzb geb
    have Bzc : Below w.heap.size w ((w1.alloc (.cells #[.slice none 0 0, .slice none 0 0, .int .i64 0, .bool false] 25)).alloc (.cells #[] 35)).drew := ((hB.alloc hB.size (.cells #[.slice none 0 0, .slice none 0 0, .int .i64 0, .bool false] 25)).alloc (by have := hB.size; simp; omega) (.cells #[] 35)).drew
    obtain ⟨gc, cc, xc, hrc, Oc, hbc, hgc, gbc, glc, gec⟩ := run_cloneR (w := ((w1.alloc (.cells #[.slice none 0 0, .slice none 0 0, .int .i64 0, .bool false] 25)).alloc (.cells #[] 35)).drew) (a := w1.heap.size + 1) (base := base) (by show ((w1.heap.push _).push _)[w1.heap.size + 1]? = _; rw [Array.getElem?_push, if_pos (by simp)]) (by omega) (hD.out.old.keep (Keeps.of Bzc)).sectors (fun b h => by have := h.2; omega) hns4.out (by rw [hns.out]; exact hns0)
    have Rc : (appF #[22, 22] 22 #[.slice (some ⟨w1.heap.size + 1, 0, none⟩) 0 0, .slice As ns cs]).run Try.prog ((w1.alloc (.cells #[.slice none 0 0, .slice none 0 0, .int .i64 0, .bool false] 25)).alloc (.cells #[] 35)).drew = .ok (.slice (some ⟨gc, 0, none⟩) ns cc) xc := hrc
    have X0c := (((X0.alloc (.cells #[.slice none 0 0, .slice none 0 0, .int .i64 0, .bool false] 25)).alloc (.cells #[] 35)).drew).keep (D := base) (by omega) hbc
    have RRc := (((R.alloc (.cells #[.slice none 0 0, .slice none 0 0, .int .i64 0, .bool false] 25)).alloc (.cells #[] 35)).drew).keep (D := base) (by omega) hbc
    have B1c : Below w.heap.size w xc := Bzc.trans (hbc.mono (by omega))
    have y0c : xc.cell? ⟨w.heap.size, 0, none⟩ = some (.slice As ns cs) := X0c.cell 0
    have y2c : xc.cell? ⟨w.heap.size, 2, none⟩ = some (.int .i64 j) := X0c.cell 2
    have yzc : w.heap.size < xc.heap.size := X0c.lt
    have zzc : base ≤ xc.heap.size := by have := hbc.size; simp at this; omega
    have Pc : Box xc (w1.heap.size) [.slice none 0 0, .slice none 0 0, .int .i64 0, .bool false] := (((Box.newAt (w := w1) (n := w1.heap.size) [.slice none 0 0, .slice none 0 0, .int .i64 0, .bool false] 25 rfl).alloc (.cells #[] 35)).drew).same (hgc.block _ (by simp <;> omega) (by simp))
    have p0c : xc.cell? ⟨w1.heap.size, 0, none⟩ = some (.slice none 0 0) := Pc.cell 0
    have p1c : xc.cell? ⟨w1.heap.size, 1, none⟩ = some (.slice none 0 0) := Pc.cell 1
    have p2c : xc.cell? ⟨w1.heap.size, 2, none⟩ = some (.int .i64 0) := Pc.cell 2
    have p3c : xc.cell? ⟨w1.heap.size, 3, none⟩ = some (.bool false) := Pc.cell 3
    have pf0c := Pc.free 0
    have pf1c := Pc.free 1
    have pf2c := Pc.free 2
    have pf3c := Pc.free 3
    have pzc := Pc.lt
    have gxc : gc ≠ w1.heap.size := by
      have h := gec
      simp at h
      omega
    clear hrc hbc Bzc gec
    have x0 : w1.cell? ⟨w.heap.size, 0, none⟩ = some (.slice As ns cs) := X0.cell 0
    have x2 : w1.cell? ⟨w.heap.size, 2, none⟩ = some (.int .i64 j) := X0.cell 2
    have xz : w.heap.size < w1.heap.size := X0.lt
    go_region
    all_goals (go_wp2_with fail; go_meet)
    all_goals first
      | exact ⟨_, ga, ca, rfl, Box.new xa _ _, Lib.hid (Oa.out.keep ((Below.refl _ _).alloc (Nat.le_refl _) _)), X0a.alloc _, RRa.alloc _, B1a.alloc B1a.size _, zza, gba, by omega⟩
      | exact ⟨_, gb, cb, rfl, ((((Pb.set 0 (.slice (some ⟨gb, 0, none⟩) ns cb)).set 1 (.slice none 0 0)).set 2 (.int .i64 j)).set 3 (.bool false)), Lib.hid ((((Ob.out.other (x := w1.heap.size + 1) (o := 0) (nS.out _ (by omega)) gxb (.slice (some ⟨gb, 0, none⟩) ns cb)).other (x := w1.heap.size + 1) (o := 1) (nS.out _ (by omega)) gxb (.slice none 0 0)).other (x := w1.heap.size + 1) (o := 2) (nS.out _ (by omega)) gxb (.int .i64 j)).other (x := w1.heap.size + 1) (o := 3) (nS.out _ (by omega)) gxb (.bool false)), ((((X0b.other (a := ⟨w1.heap.size + 1, 0, none⟩) (by simp <;> omega) (.slice (some ⟨gb, 0, none⟩) ns cb)).other (a := ⟨w1.heap.size + 1, 1, none⟩) (by simp <;> omega) (.slice none 0 0)).other (a := ⟨w1.heap.size + 1, 2, none⟩) (by simp <;> omega) (.int .i64 j)).other (a := ⟨w1.heap.size + 1, 3, none⟩) (by simp <;> omega) (.bool false)), ((((RRb.other (a := ⟨w1.heap.size + 1, 0, none⟩) (by simp <;> omega) (.slice (some ⟨gb, 0, none⟩) ns cb)).other (a := ⟨w1.heap.size + 1, 1, none⟩) (by simp <;> omega) (.slice none 0 0)).other (a := ⟨w1.heap.size + 1, 2, none⟩) (by simp <;> omega) (.int .i64 j)).other (a := ⟨w1.heap.size + 1, 3, none⟩) (by simp <;> omega) (.bool false)), ((((B1b.setCell (p := ⟨w1.heap.size + 1, 0, none⟩) (by simp <;> omega) (.slice (some ⟨gb, 0, none⟩) ns cb)).setCell (p := ⟨w1.heap.size + 1, 1, none⟩) (by simp <;> omega) (.slice none 0 0)).setCell (p := ⟨w1.heap.size + 1, 2, none⟩) (by simp <;> omega) (.int .i64 j)).setCell (p := ⟨w1.heap.size + 1, 3, none⟩) (by simp <;> omega) (.bool false)), by omega, gbb, gxb⟩
      | exact ⟨_, gc, cc, rfl, ((((Pc.set 0 (.slice (some ⟨gc, 0, none⟩) ns cc)).set 1 (.slice none 0 0)).set 2 (.int .i64 j)).set 3 (.bool false)), Lib.hid ((((Oc.out.other (x := w1.heap.size) (o := 0) (nS.out _ (by omega)) gxc (.slice (some ⟨gc, 0, none⟩) ns cc)).other (x := w1.heap.size) (o := 1) (nS.out _ (by omega)) gxc (.slice none 0 0)).other (x := w1.heap.size) (o := 2) (nS.out _ (by omega)) gxc (.int .i64 j)).other (x := w1.heap.size) (o := 3) (nS.out _ (by omega)) gxc (.bool false)), ((((X0c.other (a := ⟨w1.heap.size, 0, none⟩) (by simp <;> omega) (.slice (some ⟨gc, 0, none⟩) ns cc)).other (a := ⟨w1.heap.size, 1, none⟩) (by simp <;> omega) (.slice none 0 0)).other (a := ⟨w1.heap.size, 2, none⟩) (by simp <;> omega) (.int .i64 j)).other (a := ⟨w1.heap.size, 3, none⟩) (by simp <;> omega) (.bool false)), ((((RRc.other (a := ⟨w1.heap.size, 0, none⟩) (by simp <;> omega) (.slice (some ⟨gc, 0, none⟩) ns cc)).other (a := ⟨w1.heap.size, 1, none⟩) (by simp <;> omega) (.slice none 0 0)).other (a := ⟨w1.heap.size, 2, none⟩) (by simp <;> omega) (.int .i64 j)).other (a := ⟨w1.heap.size, 3, none⟩) (by simp <;> omega) (.bool false)), ((((B1c.setCell (p := ⟨w1.heap.size, 0, none⟩) (by simp <;> omega) (.slice (some ⟨gc, 0, none⟩) ns cc)).setCell (p := ⟨w1.heap.size, 1, none⟩) (by simp <;> omega) (.slice none 0 0)).setCell (p := ⟨w1.heap.size, 2, none⟩) (by simp <;> omega) (.int .i64 j)).setCell (p := ⟨w1.heap.size, 3, none⟩) (by simp <;> omega) (.bool false)), by omega, gbc, gxc⟩
  case rest =>
    obtain ⟨xa, gg, cc, rfl, Xx, HO, X0, RR, hB, hxa, hgg, hgx⟩ := hcut
    have gX : gg ≠ w.heap.size := by omega
    have gR : gg ≠ w.heap.size + 1 := by omega
    have xX : xa ≠ w.heap.size := by omega
    have xR : xa ≠ w.heap.size + 1 := by omega
    have HPL : ∀ l, Hid ((perf d.sectors l).length = ns) := fun l => by rw [Hid, perf_length, hns.out]
    replace HPL := Lib.hid HPL
    have x0 : wc.cell? ⟨w.heap.size, 0, none⟩ = some (.slice As ns cs) := X0.cell 0
    go_wp2_with fail
    clear x0
    go_loopw [7] (fun i wr => ∃ k : Nat, k ≤ j ∧ i = .int .i64 k ∧ Hid (OwnRw wr base (Old S w) (.slice (some ⟨gg, 0, none⟩) ns cc) (perf d.sectors (d.pending.take k))) ∧ Box wr xa [.slice (some ⟨gg, 0, none⟩) ns cc, .slice none 0 0, .int .i64 j, .bool false] ∧ Box wr (w.heap.size) [.slice As ns cs, .slice Ap np cp, .int .i64 j, .bool false] ∧ Box wr (w.heap.size + 1) [.slice none 0 0, .slice none 0 0, .int .i64 0, .bool false] ∧ Below w.heap.size w wr) (fun i _ => j - (intOf i).toNat)
    case atStart => exact ⟨0, by omega, rfl, HO, Xx, X0, RR, hB⟩
    case round =>
      clear HO Xx X0 RR hB
      obtain ⟨k, hk, rfl, HO, Xx, X0, RR, hB⟩ := hrel
      by_cases hlt : k < j
      · have hkl : k < d.pending.length := by rw [hnp.out]; omega
        obtain ⟨pb, po, U, rfl, hSp, hpb, q0, q1, hU⟩ := hD.out.pending.wr hkl
        obtain ⟨hi1, hi2⟩ := HIN.out _ (List.getElem_mem hkl)
        rw [hns.out] at hi2
        replace q0 := (hB.cell hpb).trans q0
        replace q1 := (hB.cell hpb).trans q1
        replace hU := hU.old.keep (Keeps.of hB)
        have hpt := perf_take (s := d.sectors) hkl
        obtain ⟨⟨ta, xd⟩, hx⟩ : ∃ x, d.pending[k] = x := ⟨_, rfl⟩
        rw [hx] at q0 hU hi1 hi2 hpt
        dsimp only at q0 hU hi1 hi2 hpt
        obtain ⟨Au, cu, rfl, _⟩ := hU.form
        obtain ⟨ul, hul⟩ : ∃ ul, xd.length = ul := ⟨_, rfl⟩
        rw [hul] at q1 hU
        obtain ⟨a, rfl⟩ : ∃ a : Nat, ta = a := ⟨ta.toNat, by omega⟩
        have HPT := Lib.hid hpt
        have HU := Lib.hid hU
        have ha : a < ns := by omega
        have gp : gg ≠ pb := by omega
        have hpW := Nat.lt_of_lt_of_le hpb hB.size
        clear hx hpt hU hi1 hul hSp
        obtain ⟨g', c', e', _, _, hgw, hgc, hgf⟩ := HO.out.row (HPL.out _).out hns0
        cases e'
        obtain ⟨u, hu, _⟩ := hgc a ha
        have hf := hgf a
        clear hgc hgf
        have x0 : wr.cell? ⟨xa, 0, none⟩ = some (.slice (some ⟨gg, 0, none⟩) ns cc) := Xx.cell 0
        have x1 : wr.cell? ⟨w.heap.size, 1, none⟩ = some (.slice (some ⟨pb, po, none⟩) np cp) := X0.cell 1
        have xz := Xx.lt
        have yz := X0.lt
        have k0 : (0 : Int) ≤ (k : Int) := by omega
        have k1 : (k : Int) < (np : Int) := by omega
        have a0 : (0 : Int) ≤ (a : Int) := by omega
        have a1 : (a : Int) < (ns : Int) := by omega
        go_wp2_with fail
        go_region
        go_wp2
        refine ⟨⟨k + 1, by omega, by go_num, ?_, (Xx.other (a := ⟨gg, a, none⟩) (Ne.symm hgx) _).drew, (X0.other (a := ⟨gg, a, none⟩) (Ne.symm gX) _).drew, (RR.other (a := ⟨gg, a, none⟩) (Ne.symm gR) _).drew, (hB.setCell (p := ⟨gg, a, none⟩) (by simp <;> omega) _).drew⟩, by simp [intOf]; omega⟩
        rw [HPT.out, Int.toNat_natCast]
        exact HO.out.set (nS.out _ hgg) ha (HPL.out _).out HU.out
      · obtain rfl : j = k := by omega
        have hfull : Hid (d.pending.take j = d.pending.take j) := rfl
        rw [hfull.out] at HO
        have x0 : wr.cell? ⟨xa, 0, none⟩ = some (.slice (some ⟨gg, 0, none⟩) ns cc) := Xx.cell 0
        have x1 : wr.cell? ⟨xa, 1, none⟩ = some (.slice none 0 0) := Xx.cell 1
        have x2 : wr.cell? ⟨xa, 2, none⟩ = some (.int .i64 j) := Xx.cell 2
        have x3 : wr.cell? ⟨xa, 3, none⟩ = some (.bool false) := Xx.cell 3
        have xf2 := Xx.free 2
        have xf3 := Xx.free 3
        have xz := Xx.lt
        have r0 : wr.cell? ⟨w.heap.size + 1, 0, none⟩ = some (.slice none 0 0) := RR.cell 0
        have r1 : wr.cell? ⟨w.heap.size + 1, 1, none⟩ = some (.slice none 0 0) := RR.cell 1
        have r2 : wr.cell? ⟨w.heap.size + 1, 2, none⟩ = some (.int .i64 0) := RR.cell 2
        have r3 : wr.cell? ⟨w.heap.size + 1, 3, none⟩ = some (.bool false) := RR.cell 3
        have rf0 := RR.free 0
        have rf1 := RR.free 1
        have rf2 := RR.free 2
        have rf3 := RR.free 3
        have rz := RR.lt
        have hjl : j < d.pending.length := by rw [hnp.out]; exact hj
        obtain ⟨pb, po, U, rfl, hSp, hpb, q0, q1, hU⟩ := hD.out.pending.wr hjl
        obtain ⟨hi1, hi2⟩ := HIN.out _ (List.getElem_mem hjl)
        rw [hns.out] at hi2
        have hx3 := H128.out _ (List.getElem_mem hjl)
        replace q0 := (hB.cell hpb).trans q0
        replace q1 := (hB.cell hpb).trans q1
        replace hU := hU.old.keep (Keeps.of hB)
        have hT : Hid (tornS d = (perf d.sectors (d.pending.take j)).set (d.pending[j]).at'.toNat ((d.pending[j]).data.take 64 ++ ((perf d.sectors (d.pending.take j)).getD (d.pending[j]).at'.toNat []).drop 64)) := by
          have e : d.left.toNat = j := by rw [hdl.out]; rfl
          have e2 : d.pending.getD j Wr.zero = d.pending[j] := by rw [List.getD_eq_getElem?_getD, List.getElem?_eq_getElem hjl]; rfl
          rw [Hid, tornS, e]
          simp only [e2]
        obtain ⟨⟨ta, xd⟩, hx⟩ : ∃ x, d.pending[j] = x := ⟨_, rfl⟩
        rw [hx] at q0 hU hi1 hi2 hT hx3
        dsimp only at q0 hU hi1 hi2 hT hx3
        obtain ⟨Au, cu, rfl, _⟩ := hU.form
        rw [hx3] at q1 hU
        obtain ⟨ub, uo, rfl, hcu, hcu2, _, _⟩ := hU.row (by decide)
        obtain ⟨a, rfl⟩ : ∃ a : Nat, ta = a := ⟨ta.toNat, by omega⟩
        rw [Int.toNat_natCast] at hT
        have ha : a < ns := by omega
        have HX3 := Lib.hid hx3
        have HU := Lib.hid hU
        have hpW := Nat.lt_of_lt_of_le hpb hB.size
        have gp : gg ≠ pb := by omega
        clear hx hU hi1 hSp hx3
        obtain ⟨g', c', e', _, _, hgw, hgc, hgf⟩ := HO.out.row (HPL.out _).out hns0
        cases e'
        obtain ⟨u, hu, hub⟩ := hgc a ha
        have hf := hgf a
        have hpa : a < (perf d.sectors (d.pending.take j)).length := by rw [(HPL.out _).out]; exact ha
        have hul : ((perf d.sectors (d.pending.take j)).getD a []).length = 128 := by
          refine (perf_len (l := d.pending.take j) H128s.out (fun x hx => H128.out x (List.mem_of_mem_take hx))) _ ?_
          rw [List.getD_eq_getElem?_getD, List.getElem?_eq_getElem hpa]
          exact List.getElem_mem hpa
        obtain ⟨Ao, co, rfl, _⟩ := hub.form
        rw [hul] at hu hub
        obtain ⟨ob, oo, rfl, hco, hco2, _, _⟩ := hub.row (by decide)
        have HUL := Lib.hid hul
        have HUB := Lib.hid hub
        clear hgc hgf hpa hul hub
        have hstw := (Below.refl wr.heap.size wr).alloc (Nat.le_refl _) (.cells #[.int .i64 a, .slice (some ⟨ub, uo, none⟩) 128 cu] 76)
        have Y5 := Box.new wr [.int .i64 a, .slice (some ⟨ub, uo, none⟩) 128 cu] 76
        obtain ⟨v1, x1', hr1, ho1, hb1⟩ := (by
          obtain ⟨i', E⟩ := elem_by
          obtain ⟨hf', hs'⟩ := (HU.out.take (k := 64) (by decide) ⟨hcu, hcu2⟩).keep (Keeps.of hstw)
          have hl64 : (xd.take 64).length = 64 := by rw [List.length_take, HX3.out]; rfl
          rw [hl64] at hs'
          exact run_clone (w := (wr.alloc (.cells #[.int .i64 a, .slice (some ⟨ub, uo, none⟩) 128 cu] 76)).drew) E hs' hf' (fun _ _ _ _ => rfl) (by decide) : ∃ v' w', (appF #[35, 35] 35 #[.slice (some ⟨(wr.alloc (.cells #[.int .i64 a, .slice (some ⟨ub, uo, none⟩) 128 cu] 76)).heap.size, 0, none⟩) 0 0, .slice (some ⟨ub, uo, none⟩) 64 cu]).run Try.prog ((wr.alloc (.cells #[.int .i64 a, .slice (some ⟨ub, uo, none⟩) 128 cu] 76)).drew.alloc (.cells #[] 5)) = .ok v' w' ∧ w'.ownsRow (wr.alloc (.cells #[.int .i64 a, .slice (some ⟨ub, uo, none⟩) 128 cu] 76)).heap.size 5 1 v' 64 (flat 64 1 (fun i _ => .int .u8 (((xd.take 64).getD i 0).toNat : Int))) ∧ Below (wr.alloc (.cells #[.int .i64 a, .slice (some ⟨ub, uo, none⟩) 128 cu] 76)).heap.size (wr.alloc (.cells #[.int .i64 a, .slice (some ⟨ub, uo, none⟩) 128 cu] 76)).drew w')
        have hO1 : OwnBs x1' (wr.alloc (.cells #[.int .i64 a, .slice (some ⟨ub, uo, none⟩) 128 cu] 76)).heap.size v1 (xd.take 64) := by
          have hl64 : (xd.take 64).length = 64 := by rw [List.length_take, HX3.out]; rfl
          have := byV_flat (xd.take 64)
          rw [hl64] at this
          rw [this] at ho1
          unfold OwnBs
          rw [hl64]
          exact ho1
        replace hb1' : Below wr.heap.size wr x1' := (hstw.drew).trans (hb1.mono hstw.size)
        obtain ⟨v2, x2', hr2, hO2, hb2⟩ := run_ownBB hO1 (((HUB.out.drop (k := 64) (by decide) ⟨hco, hco2⟩).keep (Keeps.of hb1'))) hb1.size (by rw [List.length_take, List.length_drop, HX3.out, HUL.out]; decide)
        replace hb2' : Below wr.heap.size wr x2' := hb1'.trans (hb2.mono hstw.size)
        obtain ⟨A1, c1, rfl⟩ := hO1.form'
        obtain ⟨A2, c2, rfl⟩ := hO2.form'
        have hl1 : (xd.take 64).length = 64 := by rw [List.length_take, HX3.out]; rfl
        have hl2 : (xd.take 64 ++ ((perf d.sectors (d.pending.take j)).getD a []).drop 64).length = 128 := by rw [List.length_append, List.length_take, List.length_drop, HX3.out, HUL.out]; rfl
        rw [hl1] at hr1 hr2
        rw [hl2] at hr2 hO2
        have R1 : (appF #[35, 35] 35 #[.slice (some ⟨wr.heap.size + 1, 0, none⟩) 0 0, .slice (some ⟨ub, uo, none⟩) 64 cu]).run Try.prog ((wr.alloc (.cells #[.int .i64 a, .slice (some ⟨ub, uo, none⟩) 128 cu] 76)).alloc (.cells #[] 5)).drew = .ok (.slice A1 64 c1) x1' := by
          have e : (wr.alloc (.cells #[.int .i64 a, .slice (some ⟨ub, uo, none⟩) 128 cu] 76)).heap.size = wr.heap.size + 1 := by simp
          rw [e] at hr1
          exact hr1
        have R2 : (appF #[35, 35] 35 #[.slice A1 64 c1, .slice (some ⟨ob, oo + 64, none⟩) 64 (co - 64)]).run Try.prog x1' = .ok (.slice A2 128 c2) x2' := hr2
        have HTB : Hid (BsAt x2' (fun b => Old S w b ∨ wr.heap.size ≤ b) (.slice A2 128 c2) (xd.take 64 ++ ((perf d.sectors (d.pending.take j)).getD a []).drop 64)) := by
          replace hO2' : OwnBs x2' (wr.alloc (.cells #[.int .i64 a, .slice (some ⟨ub, uo, none⟩) 128 cu] 76)).heap.size (.slice A2 128 c2) (xd.take 64 ++ ((perf d.sectors (d.pending.take j)).getD a []).drop 64) := hO2
          exact (hO2'.bs (by rw [hl2]; simp [maxLen])).weak (fun b h _ => .inr (Nat.le_trans hstw.size h))
        have HO2 := Lib.hid (HO.out.keep hb2')
        have Xx1 := Xx.later hb1'
        have Xx2 := Xx.later hb2'
        have X02 := X0.later hb2'
        have RR2 := RR.later hb2'
        have Y1 := (Y5.drew).keep (D := (wr.alloc (.cells #[.int .i64 a, .slice (some ⟨ub, uo, none⟩) 128 cu] 76)).heap.size) (by simp) hb1
        have Y2 := Y1.keep (D := (wr.alloc (.cells #[.int .i64 a, .slice (some ⟨ub, uo, none⟩) 128 cu] 76)).heap.size) (by simp) hb2
        have hB2 := hB.trans (hb2'.mono hB.size)
        have hs2 := hb2'.size
        have hs1 := hb1'.size
        have gw1 : gg < wr.heap.size := hgw
        have obn : x1'.cell? ⟨gg, a, none⟩ = some (.slice (some ⟨ob, oo, none⟩) 128 co) := (hb1'.cell (p := ⟨gg, a, none⟩) hgw).trans hu
        have ob2 : x2'.cell? ⟨gg, a, none⟩ = some (.slice (some ⟨ob, oo, none⟩) 128 co) := (hb2'.cell (p := ⟨gg, a, none⟩) hgw).trans hu
        have obf : x2'.frozen? ⟨gg, a, none⟩ = false := (hb2'.frozen (p := ⟨gg, a, none⟩) hgw).trans hf
        have xb0 : x1'.cell? ⟨xa, 0, none⟩ = some (.slice (some ⟨gg, 0, none⟩) ns cc) := Xx1.cell 0
        have xb2 : x2'.cell? ⟨xa, 0, none⟩ = some (.slice (some ⟨gg, 0, none⟩) ns cc) := Xx2.cell 0
        have yb0 : x1'.cell? ⟨wr.heap.size, 0, none⟩ = some (.int .i64 a) := Y1.cell 0
        have yb1 : x1'.cell? ⟨wr.heap.size, 1, none⟩ = some (.slice (some ⟨ub, uo, none⟩) 128 cu) := Y1.cell 1
        have yb2 : x2'.cell? ⟨wr.heap.size, 0, none⟩ = some (.int .i64 a) := Y2.cell 0
        have x0q : wr.cell? ⟨w.heap.size, 1, none⟩ = some (.slice (some ⟨pb, po, none⟩) np cp) := X0.cell 1
        have x0z := X0.lt
        have xxn : xa ≠ wr.heap.size := by have := Xx.lt; omega
        have ggn : gg ≠ wr.heap.size := by omega
        have ggn1 : gg ≠ wr.heap.size + 1 := by omega
        have xxn1 : xa ≠ wr.heap.size + 1 := by have := Xx.lt; omega
        have a0 : (0 : Int) ≤ (a : Int) := by omega
        have a1 : (a : Int) < (ns : Int) := by omega
        have j0 : (0 : Int) ≤ (j : Int) := by omega
        have j1 : (j : Int) < (np : Int) := by omega
        have e64 : (64 : Int) ≤ (cu : Int) := by omega
        have o64 : (64 : Int) < (co : Int) := by omega
        have o128 : (128 : Int) ≤ (co : Int) := by omega
        clear hr1 hr2 ho1 hO1 hO2 hb1 hb2 hb1' hl1 hl2 HO Xx1 Y5 Y1 hstw r0 r1 r2 r3 rf0 rf1 rf2 rf3 rz xf2 xf3
        unfold maxLen at hcu2 hco2
        have hxR := RR.lt
        have nK : ∀ x, base ≤ x → x < wr.heap.size → ¬ (Old S w x ∨ wr.heap.size ≤ x) := by
          intro x h1 h2 h
          rcases h with h | h
          · have := h.2; omega
          · omega
        replace nK := Lib.hid nK
        have hxw : xa < wr.heap.size := Xx.lt
        have hO5 := (HO2.out.weak (S' := fun b => Old S w b ∨ wr.heap.size ≤ b) (fun b h _ => .inl h)).set (i := a) (nK.out _ hgg hgw) ha (HPL.out _).out HTB.out
        rw [← hT.out] at hO5
        have HO5 := Lib.hid hO5
        have Xx5 := Xx2.other (a := ⟨gg, a, none⟩) (Ne.symm hgx) (.slice A2 128 c2)
        have RR5 := RR2.other (a := ⟨gg, a, none⟩) (Ne.symm gR) (.slice A2 128 c2)
        have hB5 := hB2.setCell (p := ⟨gg, a, none⟩) (by simp <;> omega) (.slice A2 128 c2)
        have hTL : Hid ((tornS d).length = ns) := by rw [Hid, hT.out, List.length_set, (HPL.out _).out]
        clear hO5
        replace HO5 := Lib.hid HO5
        replace Xx5 := Lib.hid Xx5
        replace RR5 := Lib.hid RR5
        replace hB5 := Lib.hid hB5
        go_wp2_with fail
        go_cut [] (fun wx => Hid (OwnRw wx base (fun b => Old S w b ∨ wr.heap.size ≤ b) (.slice (some ⟨gg, 0, none⟩) ns cc) (tornS d)) ∧ Box wx xa [.slice (some ⟨gg, 0, none⟩) ns cc, .slice none 0 0, .int .i64 j, .bool false] ∧ Box wx (w.heap.size + 1) [.slice none 0 0, .slice none 0 0, .int .i64 0, .bool false] ∧ Below w.heap.size w wx)
        case first =>
          go_region
          go_wp2_with fail
          go_meet
          exact ⟨HO5.out, Xx5.out, RR5.out, hB5.out⟩
        case rest =>
        clear HO5 Xx5 RR5 hB5
        obtain ⟨HO5, Xx5, RR5, hB5⟩ := hcut
        clear hD HB0 HD0 X0 hpb q0 q1 hcu hcu2 hT hi2 HX3 HU hpW gp hf hu hco hco2 HUL HUB hb2' R1 R2 HTB HO2 Xx2 X02 RR2 Y2 hB2 hs2 hs1 gw1 obn ob2 obf xb0 xb2 yb0 yb1 yb2 x0q x0z xxn ggn ggn1 xxn1 a0 a1 j0 j1 e64 o64 o128 hfull hlt hk hjl x0 x1 x2 x3 xz Xx RR hB R HPL nS HIN H128 H128s hc hr hdl hds hgw ha
        have x0 : wc.cell? ⟨xa, 0, none⟩ = some (.slice (some ⟨gg, 0, none⟩) ns cc) := Xx5.cell 0
        have x1 : wc.cell? ⟨xa, 1, none⟩ = some (.slice none 0 0) := Xx5.cell 1
        have x2 : wc.cell? ⟨xa, 2, none⟩ = some (.int .i64 j) := Xx5.cell 2
        have x3 : wc.cell? ⟨xa, 3, none⟩ = some (.bool false) := Xx5.cell 3
        have xf2 := Xx5.free 2
        have xf3 := Xx5.free 3
        have xz := Xx5.lt
        have r0 : wc.cell? ⟨w.heap.size + 1, 0, none⟩ = some (.slice none 0 0) := RR5.cell 0
        have r1 : wc.cell? ⟨w.heap.size + 1, 1, none⟩ = some (.slice none 0 0) := RR5.cell 1
        have r2 : wc.cell? ⟨w.heap.size + 1, 2, none⟩ = some (.int .i64 0) := RR5.cell 2
        have r3 : wc.cell? ⟨w.heap.size + 1, 3, none⟩ = some (.bool false) := RR5.cell 3
        have rf0 := RR5.free 0
        have rf1 := RR5.free 1
        have rf2 := RR5.free 2
        have rf3 := RR5.free 3
        have rz := RR5.lt
        go_wp2_with fail
        have nR : ¬ (Old S w (w.heap.size + 1) ∨ wr.heap.size ≤ w.heap.size + 1) := by
          intro h
          rcases h with h | h
          · have := h.2; omega
          · omega
        have ZR := ((((((RR5.other (a := ⟨xa, 2, none⟩) (Ne.symm xR) (.int .i64 0)).other (a := ⟨xa, 3, none⟩) (Ne.symm xR) (.bool true)).set 0 (.slice (some ⟨gg, 0, none⟩) ns cc)).set 1 (.slice none 0 0)).set 2 (.int .i64 0)).set 3 (.bool true))
        have HB := ((((((hB5.setCell (p := ⟨xa, 2, none⟩) (by simp <;> omega) (.int .i64 0)).setCell (p := ⟨xa, 3, none⟩) (by simp <;> omega) (.bool true)).setCell (p := ⟨w.heap.size + 1, 0, none⟩) (by simp <;> omega) (.slice (some ⟨gg, 0, none⟩) ns cc)).setCell (p := ⟨w.heap.size + 1, 1, none⟩) (by simp <;> omega) (.slice none 0 0)).setCell (p := ⟨w.heap.size + 1, 2, none⟩) (by simp <;> omega) (.int .i64 0)).setCell (p := ⟨w.heap.size + 1, 3, none⟩) (by simp <;> omega) (.bool true))
        have hO9 := ((((((HO5.out.other (x := xa) (o := 2) (nK.out _ hxa hxw) hgx (.int .i64 0)).other (x := xa) (o := 3) (nK.out _ hxa hxw) hgx (.bool true)).other (x := w.heap.size + 1) (o := 0) nR gR (.slice (some ⟨gg, 0, none⟩) ns cc)).other (x := w.heap.size + 1) (o := 1) nR gR (.slice none 0 0)).other (x := w.heap.size + 1) (o := 2) nR gR (.int .i64 0)).other (x := w.heap.size + 1) (o := 3) nR gR (.bool true))
        clear x0 x1 x2 x3 xf2 xf3 xz r0 r1 r2 r3 rf0 rf1 rf2 rf3 rz
        generalize ((((((wc.setCell ⟨xa, 2, none⟩ (.int .i64 0)).setCell ⟨xa, 3, none⟩ (.bool true)).setCell ⟨w.heap.size + 1, 0, none⟩ (.slice (some ⟨gg, 0, none⟩) ns cc)).setCell ⟨w.heap.size + 1, 1, none⟩ (.slice none 0 0)).setCell ⟨w.heap.size + 1, 2, none⟩ (.int .i64 0)).setCell ⟨w.heap.size + 1, 3, none⟩ (.bool true)) = W at ZR HB hO9 ⊢
        have z0 : W.cell? ⟨w.heap.size + 1, 0, none⟩ = some (.slice (some ⟨gg, 0, none⟩) ns cc) := ZR.cell 0
        have z1 : W.cell? ⟨w.heap.size + 1, 1, none⟩ = some (.slice none 0 0) := ZR.cell 1
        have z2 : W.cell? ⟨w.heap.size + 1, 2, none⟩ = some (.int .i64 0) := ZR.cell 2
        have z3 : W.cell? ⟨w.heap.size + 1, 3, none⟩ = some (.bool true) := ZR.cell 3
        refine bodyPost_ret (v := .tuple #[.agg #[.slice (some ⟨gg, 0, none⟩) ns cc, .slice none 0 0, .int .i64 0, .bool true], .int .i64 40]) (by simp [results, Try.results48, go_sem, z0, z1, z2, z3]) rfl ?_
        refine ⟨_, _, _, 40, rfl, hs, Lib.hid ⟨?_, wsAt_nil _ _⟩, HB⟩
        refine hO9.rows (by rw [hTL.out]; have := hns4.out; rw [hns.out] at this; unfold maxLen; omega) (fun b h _ => ?_) (fun b h => .inr (by omega))
        rcases h with h | h
        · exact .inl h.1
        · exact .inr (by omega)

end Go.Proofs.Ythlidhfahaalgaa
