/-
  Contract of Sync of the reference of chapter 4. (Printed by gen_dx.py.)
-/
import Derived.Test.YthlidhfahaalgaaQDX
import Derived.Deep.DeepCutAuto
import Derived.Deep.RegionHeld3
import Derived.Test.YthlidhfahaalgaaQDV
import Derived.Test.YthlidhfahaalgaaQDY
namespace Go.Proofs.Ythlidhfahaalgaa
open Go.RowKit
attribute [local go_sem ↓ high] app_named cop_named

set_option maxRecDepth 100000 in
set_option maxHeartbeats 16000000 in
theorem dRSync_4 (d : Dk) (As : Option Addr) (ns cs : Nat) (Ap : Option Addr) (np cp : Nat) (dl : Int) (S : Nat → Prop) (w : World) (hD : Hid (DkAt w S (.slice As ns cs) (.slice Ap np cp) d)) (hdl : Hid (d.left = dl)) (hds : Hid (d.stopped = false)) (hc : Hid (d.checkT = 0)) (hr : Hid (d.runs = true)) (hnp : Hid (d.pending.length = np)) (hns : Hid (d.sectors.length = ns)) (hl : 0 ≤ dl) (hl2 : (np : Int) ≤ dl) (hl3 : dl ≤ 65536) (hs : Hid (syncT d = (⟨perf d.sectors d.pending, [], dl - (np : Int), false⟩, 0))) : Calls Try.prog 48 #[.agg #[.slice As ns cs, .slice Ap np cp, .int .i64 dl, .bool false]] w (RetDk (syncT d) S w) := by
  have HB0 : Below w.heap.size w ((w.alloc (.cells #[.slice As ns cs, .slice Ap np cp, .int .i64 dl, .bool false] 25)).alloc (.cells #[.slice none 0 0, .slice none 0 0, .int .i64 0, .bool false] 25)) := (((Below.refl w.heap.size w).alloc (by simp <;> omega) (.cells #[.slice As ns cs, .slice Ap np cp, .int .i64 dl, .bool false] 25)).alloc (by simp <;> omega) (.cells #[.slice none 0 0, .slice none 0 0, .int .i64 0, .bool false] 25))
  have HD0 := Lib.hid (hD.out.keep (Keeps.of HB0))
  obtain ⟨k1, k2, k3, k4, k5, k6, k7⟩ := okB_parts (runs_ok hr.out).1
  have HIN : Hid (∀ x ∈ d.pending, 0 ≤ x.at' ∧ x.at' < (d.sectors.length : Int)) := fun x hx => ⟨(k6 x hx).1, (k6 x hx).2.1⟩
  have H128 : Hid (∀ x ∈ d.pending, x.data.length = 128) := fun x hx => (k6 x hx).2.2
  have H128s : Hid (∀ x ∈ d.sectors, x.length = 128) := k7
  have hns4 : Hid (d.sectors.length ≤ 1048576) := by rw [Hid]; omega
  have hns0 : 0 < ns := by rw [← hns.out]; omega
  have hnp4 : np ≤ 4096 := by rw [← hnp.out]; omega
  clear k1 k2 k3 k4 k5 k6 k7
  go_enter Try.func48, Try.ntmps48
  go_wp2_with fail
  refine (dRCheck_at hc HD0.out hdl hds).mono ?_
  rintro e w1 ⟨rfl, hb⟩
  have X0 := (((Box.newAt (n := w.heap.size) [.slice As ns cs, .slice Ap np cp, .int .i64 dl, .bool false] 25 (by simp)).alloc _)).later hb
  have R := ((Box.newAt (n := w.heap.size + 1) [.slice none 0 0, .slice none 0 0, .int .i64 0, .bool false] 25 (by simp))).later hb
  have hB : Below w.heap.size w w1 := ((((Below.refl w.heap.size w).alloc (by simp <;> omega) _).alloc (by simp <;> omega) _)).trans (hb.mono (by simp <;> omega))
  clear hb
  have hR1 : w.heap.size + 1 < w1.heap.size := R.lt
  obtain ⟨base, hbase⟩ : ∃ base, w1.heap.size = base := ⟨_, rfl⟩
  have hBs : w.heap.size + 1 < base := by rw [← hbase]; exact hR1
  have hle1 : base ≤ w1.heap.size := Nat.le_of_eq hbase.symm
  have hle2 : w1.heap.size ≤ base := Nat.le_of_eq hbase
  clear hbase
  have nS : Hid (∀ x, base ≤ x → ¬ Old S w x) := fun x hx h => by have := h.2; omega
  have X0c0 : w1.cell? ⟨w.heap.size, 0, none⟩ = some (.slice As ns cs) := X0.cell 0
  have X0f0 : w1.frozen? ⟨w.heap.size, 0, none⟩ = false := X0.free 0
  have X0c1 : w1.cell? ⟨w.heap.size, 1, none⟩ = some (.slice Ap np cp) := X0.cell 1
  have X0f1 : w1.frozen? ⟨w.heap.size, 1, none⟩ = false := X0.free 1
  have X0c2 : w1.cell? ⟨w.heap.size, 2, none⟩ = some (.int .i64 dl) := X0.cell 2
  have X0f2 : w1.frozen? ⟨w.heap.size, 2, none⟩ = false := X0.free 2
  have X0c3 : w1.cell? ⟨w.heap.size, 3, none⟩ = some (.bool false) := X0.cell 3
  have X0f3 : w1.frozen? ⟨w.heap.size, 3, none⟩ = false := X0.free 3
  have X0z : w.heap.size < w1.heap.size := X0.lt
  have Rc0 : w1.cell? ⟨w.heap.size + 1, 0, none⟩ = some (.slice none 0 0) := R.cell 0
  have Rf0 : w1.frozen? ⟨w.heap.size + 1, 0, none⟩ = false := R.free 0
  have Rc1 : w1.cell? ⟨w.heap.size + 1, 1, none⟩ = some (.slice none 0 0) := R.cell 1
  have Rf1 : w1.frozen? ⟨w.heap.size + 1, 1, none⟩ = false := R.free 1
  have Rc2 : w1.cell? ⟨w.heap.size + 1, 2, none⟩ = some (.int .i64 0) := R.cell 2
  have Rf2 : w1.frozen? ⟨w.heap.size + 1, 2, none⟩ = false := R.free 2
  have Rc3 : w1.cell? ⟨w.heap.size + 1, 3, none⟩ = some (.bool false) := R.cell 3
  have Rf3 : w1.frozen? ⟨w.heap.size + 1, 3, none⟩ = false := R.free 3
  have Rz : w.heap.size + 1 < w1.heap.size := R.lt
  go_wp2_with fail
  clear X0c0 X0f0 X0c1 X0f1 X0c2 X0f2 X0c3 X0f3 X0z Rc0 Rf0 Rc1 Rf1 Rc2 Rf2 Rc3 Rf3 Rz
  go_cut [6] (fun s6 wx => ∃ (xa gg cc : Nat), s6 = .pointer (some ⟨xa, 0, none⟩) ∧ Box wx xa [.slice (some ⟨gg, 0, none⟩) ns cc, .slice none 0 0, .int .i64 dl, .bool false] ∧ Hid (OwnRw wx base (Old S w) (.slice (some ⟨gg, 0, none⟩) ns cc) d.sectors) ∧ Box wx (w.heap.size) [.slice As ns cs, .slice Ap np cp, .int .i64 dl, .bool false] ∧ Box wx (w.heap.size + 1) [.slice none 0 0, .slice none 0 0, .int .i64 0, .bool false] ∧ Below w.heap.size w wx ∧ base ≤ xa ∧ base ≤ gg ∧ gg ≠ xa)
  case first =>
    have Bza : Below w.heap.size w (w1.alloc (.cells #[] 35)).drew := (hB.alloc hB.size (.cells #[] 35)).drew
    obtain ⟨ga, ca, xa, hra, Oa, hba, hga, gba, gla, gea⟩ := run_cloneR (w := (w1.alloc (.cells #[] 35)).drew) (a := w1.heap.size) (base := base) (by show (w1.heap.push _)[w1.heap.size]? = _; simp) (by omega) (hD.out.old.keep (Keeps.of Bza)).sectors (fun b h => by have := h.2; omega) hns4.out (by rw [hns.out]; exact hns0)
    have Ra : (appF #[22, 22] 22 #[.slice (some ⟨w1.heap.size, 0, none⟩) 0 0, .slice As ns cs]).run Try.prog (w1.alloc (.cells #[] 35)).drew = .ok (.slice (some ⟨ga, 0, none⟩) ns ca) xa := hra
    have X0a := ((X0.alloc (.cells #[] 35)).drew).keep (D := base) (by omega) hba
    have RRa := ((R.alloc (.cells #[] 35)).drew).keep (D := base) (by omega) hba
    have B1a : Below w.heap.size w xa := Bza.trans (hba.mono (by omega))
    have y0a : xa.cell? ⟨w.heap.size, 0, none⟩ = some (.slice As ns cs) := X0a.cell 0
    have y2a : xa.cell? ⟨w.heap.size, 2, none⟩ = some (.int .i64 dl) := X0a.cell 2
    have yza : w.heap.size < xa.heap.size := X0a.lt
    have zza : base ≤ xa.heap.size := by have := hba.size; simp at this; omega
    clear hra hba Bza gea
    have Bzb : Below w.heap.size w ((w1.alloc (.cells #[] 35)).alloc (.cells #[.slice none 0 0, .slice none 0 0, .int .i64 0, .bool false] 25)).drew := ((hB.alloc hB.size (.cells #[] 35)).alloc (by have := hB.size; simp; omega) (.cells #[.slice none 0 0, .slice none 0 0, .int .i64 0, .bool false] 25)).drew
    obtain ⟨gb, cb, xb, hrb, Ob, hbb, hgb, gbb, glb, geb⟩ := run_cloneR (w := ((w1.alloc (.cells #[] 35)).alloc (.cells #[.slice none 0 0, .slice none 0 0, .int .i64 0, .bool false] 25)).drew) (a := w1.heap.size) (base := base) (by show ((w1.heap.push _).push _)[w1.heap.size]? = _; rw [Array.getElem?_push, if_neg (by simp), Array.getElem?_push_size]) (by omega) (hD.out.old.keep (Keeps.of Bzb)).sectors (fun b h => by have := h.2; omega) hns4.out (by rw [hns.out]; exact hns0)
    have Rb : (appF #[22, 22] 22 #[.slice (some ⟨w1.heap.size, 0, none⟩) 0 0, .slice As ns cs]).run Try.prog ((w1.alloc (.cells #[] 35)).alloc (.cells #[.slice none 0 0, .slice none 0 0, .int .i64 0, .bool false] 25)).drew = .ok (.slice (some ⟨gb, 0, none⟩) ns cb) xb := hrb
    have X0b := (((X0.alloc (.cells #[] 35)).alloc (.cells #[.slice none 0 0, .slice none 0 0, .int .i64 0, .bool false] 25)).drew).keep (D := base) (by omega) hbb
    have RRb := (((R.alloc (.cells #[] 35)).alloc (.cells #[.slice none 0 0, .slice none 0 0, .int .i64 0, .bool false] 25)).drew).keep (D := base) (by omega) hbb
    have B1b : Below w.heap.size w xb := Bzb.trans (hbb.mono (by omega))
    have y0b : xb.cell? ⟨w.heap.size, 0, none⟩ = some (.slice As ns cs) := X0b.cell 0
    have y2b : xb.cell? ⟨w.heap.size, 2, none⟩ = some (.int .i64 dl) := X0b.cell 2
    have yzb : w.heap.size < xb.heap.size := X0b.lt
    have zzb : base ≤ xb.heap.size := by have := hbb.size; simp at this; omega
    have Pb : Box xb (w1.heap.size + 1) [.slice none 0 0, .slice none 0 0, .int .i64 0, .bool false] := ((Box.newAt (w := (w1.alloc (.cells #[] 35))) (n := w1.heap.size + 1) [.slice none 0 0, .slice none 0 0, .int .i64 0, .bool false] 25 (by simp)).drew).same (hgb.block _ (by simp <;> omega) (by simp))
    have p0b : xb.cell? ⟨w1.heap.size + 1, 0, none⟩ = some (.slice none 0 0) := Pb.cell 0
    have p1b : xb.cell? ⟨w1.heap.size + 1, 1, none⟩ = some (.slice none 0 0) := Pb.cell 1
    have p2b : xb.cell? ⟨w1.heap.size + 1, 2, none⟩ = some (.int .i64 0) := Pb.cell 2
    have p3b : xb.cell? ⟨w1.heap.size + 1, 3, none⟩ = some (.bool false) := Pb.cell 3
    have pf0b := Pb.free 0
    have pf1b := Pb.free 1
    have pf2b := Pb.free 2
    have pf3b := Pb.free 3
    have pzb := Pb.lt
    have gxb : gb ≠ w1.heap.size + 1 := by
      have h := geb
      simp at h
      omega
    clear hrb hbb Bzb geb
    have Bzc : Below w.heap.size w ((w1.alloc (.cells #[.slice none 0 0, .slice none 0 0, .int .i64 0, .bool false] 25)).alloc (.cells #[] 35)).drew := ((hB.alloc hB.size (.cells #[.slice none 0 0, .slice none 0 0, .int .i64 0, .bool false] 25)).alloc (by have := hB.size; simp; omega) (.cells #[] 35)).drew
    obtain ⟨gc, cc, xc, hrc, Oc, hbc, hgc, gbc, glc, gec⟩ := run_cloneR (w := ((w1.alloc (.cells #[.slice none 0 0, .slice none 0 0, .int .i64 0, .bool false] 25)).alloc (.cells #[] 35)).drew) (a := w1.heap.size + 1) (base := base) (by show ((w1.heap.push _).push _)[w1.heap.size + 1]? = _; rw [Array.getElem?_push, if_pos (by simp)]) (by omega) (hD.out.old.keep (Keeps.of Bzc)).sectors (fun b h => by have := h.2; omega) hns4.out (by rw [hns.out]; exact hns0)
    have Rc : (appF #[22, 22] 22 #[.slice (some ⟨w1.heap.size + 1, 0, none⟩) 0 0, .slice As ns cs]).run Try.prog ((w1.alloc (.cells #[.slice none 0 0, .slice none 0 0, .int .i64 0, .bool false] 25)).alloc (.cells #[] 35)).drew = .ok (.slice (some ⟨gc, 0, none⟩) ns cc) xc := hrc
    have X0c := (((X0.alloc (.cells #[.slice none 0 0, .slice none 0 0, .int .i64 0, .bool false] 25)).alloc (.cells #[] 35)).drew).keep (D := base) (by omega) hbc
    have RRc := (((R.alloc (.cells #[.slice none 0 0, .slice none 0 0, .int .i64 0, .bool false] 25)).alloc (.cells #[] 35)).drew).keep (D := base) (by omega) hbc
    have B1c : Below w.heap.size w xc := Bzc.trans (hbc.mono (by omega))
    have y0c : xc.cell? ⟨w.heap.size, 0, none⟩ = some (.slice As ns cs) := X0c.cell 0
    have y2c : xc.cell? ⟨w.heap.size, 2, none⟩ = some (.int .i64 dl) := X0c.cell 2
    have yzc : w.heap.size < xc.heap.size := X0c.lt
    have zzc : base ≤ xc.heap.size := by have := hbc.size; simp at this; omega
    have Pc : Box xc (w1.heap.size) [.slice none 0 0, .slice none 0 0, .int .i64 0, .bool false] := (((Box.newAt (w := w1) (n := w1.heap.size) [.slice none 0 0, .slice none 0 0, .int .i64 0, .bool false] 25 rfl).alloc (.cells #[] 35)).drew).same (hgc.block _ (by simp <;> omega) (by simp))
    have p0c : xc.cell? ⟨w1.heap.size, 0, none⟩ = some (.slice none 0 0) := Pc.cell 0
    have p1c : xc.cell? ⟨w1.heap.size, 1, none⟩ = some (.slice none 0 0) := Pc.cell 1
    have p2c : xc.cell? ⟨w1.heap.size, 2, none⟩ = some (.int .i64 0) := Pc.cell 2
    have p3c : xc.cell? ⟨w1.heap.size, 3, none⟩ = some (.bool false) := Pc.cell 3
    have pf0c := Pc.free 0
    have pf1c := Pc.free 1
    have pf2c := Pc.free 2
    have pf3c := Pc.free 3
    have pzc := Pc.lt
    have gxc : gc ≠ w1.heap.size := by
      have h := gec
      simp at h
      omega
    clear hrc hbc Bzc gec
    have x0 : w1.cell? ⟨w.heap.size, 0, none⟩ = some (.slice As ns cs) := X0.cell 0
    have x2 : w1.cell? ⟨w.heap.size, 2, none⟩ = some (.int .i64 dl) := X0.cell 2
    have xz : w.heap.size < w1.heap.size := X0.lt
    go_region
    all_goals (go_wp2_with fail; go_meet)
    all_goals first
      | exact ⟨_, ga, ca, rfl, Box.new xa _ _, Lib.hid (Oa.out.keep ((Below.refl _ _).alloc (Nat.le_refl _) _)), X0a.alloc _, RRa.alloc _, B1a.alloc B1a.size _, zza, gba, by omega⟩
      | exact ⟨_, gb, cb, rfl, ((((Pb.set 0 (.slice (some ⟨gb, 0, none⟩) ns cb)).set 1 (.slice none 0 0)).set 2 (.int .i64 dl)).set 3 (.bool false)), Lib.hid ((((Ob.out.other (x := w1.heap.size + 1) (o := 0) (nS.out _ (by omega)) gxb (.slice (some ⟨gb, 0, none⟩) ns cb)).other (x := w1.heap.size + 1) (o := 1) (nS.out _ (by omega)) gxb (.slice none 0 0)).other (x := w1.heap.size + 1) (o := 2) (nS.out _ (by omega)) gxb (.int .i64 dl)).other (x := w1.heap.size + 1) (o := 3) (nS.out _ (by omega)) gxb (.bool false)), ((((X0b.other (a := ⟨w1.heap.size + 1, 0, none⟩) (by simp <;> omega) (.slice (some ⟨gb, 0, none⟩) ns cb)).other (a := ⟨w1.heap.size + 1, 1, none⟩) (by simp <;> omega) (.slice none 0 0)).other (a := ⟨w1.heap.size + 1, 2, none⟩) (by simp <;> omega) (.int .i64 dl)).other (a := ⟨w1.heap.size + 1, 3, none⟩) (by simp <;> omega) (.bool false)), ((((RRb.other (a := ⟨w1.heap.size + 1, 0, none⟩) (by simp <;> omega) (.slice (some ⟨gb, 0, none⟩) ns cb)).other (a := ⟨w1.heap.size + 1, 1, none⟩) (by simp <;> omega) (.slice none 0 0)).other (a := ⟨w1.heap.size + 1, 2, none⟩) (by simp <;> omega) (.int .i64 dl)).other (a := ⟨w1.heap.size + 1, 3, none⟩) (by simp <;> omega) (.bool false)), ((((B1b.setCell (p := ⟨w1.heap.size + 1, 0, none⟩) (by simp <;> omega) (.slice (some ⟨gb, 0, none⟩) ns cb)).setCell (p := ⟨w1.heap.size + 1, 1, none⟩) (by simp <;> omega) (.slice none 0 0)).setCell (p := ⟨w1.heap.size + 1, 2, none⟩) (by simp <;> omega) (.int .i64 dl)).setCell (p := ⟨w1.heap.size + 1, 3, none⟩) (by simp <;> omega) (.bool false)), by omega, gbb, gxb⟩
      | exact ⟨_, gc, cc, rfl, ((((Pc.set 0 (.slice (some ⟨gc, 0, none⟩) ns cc)).set 1 (.slice none 0 0)).set 2 (.int .i64 dl)).set 3 (.bool false)), Lib.hid ((((Oc.out.other (x := w1.heap.size) (o := 0) (nS.out _ (by omega)) gxc (.slice (some ⟨gc, 0, none⟩) ns cc)).other (x := w1.heap.size) (o := 1) (nS.out _ (by omega)) gxc (.slice none 0 0)).other (x := w1.heap.size) (o := 2) (nS.out _ (by omega)) gxc (.int .i64 dl)).other (x := w1.heap.size) (o := 3) (nS.out _ (by omega)) gxc (.bool false)), ((((X0c.other (a := ⟨w1.heap.size, 0, none⟩) (by simp <;> omega) (.slice (some ⟨gc, 0, none⟩) ns cc)).other (a := ⟨w1.heap.size, 1, none⟩) (by simp <;> omega) (.slice none 0 0)).other (a := ⟨w1.heap.size, 2, none⟩) (by simp <;> omega) (.int .i64 dl)).other (a := ⟨w1.heap.size, 3, none⟩) (by simp <;> omega) (.bool false)), ((((RRc.other (a := ⟨w1.heap.size, 0, none⟩) (by simp <;> omega) (.slice (some ⟨gc, 0, none⟩) ns cc)).other (a := ⟨w1.heap.size, 1, none⟩) (by simp <;> omega) (.slice none 0 0)).other (a := ⟨w1.heap.size, 2, none⟩) (by simp <;> omega) (.int .i64 dl)).other (a := ⟨w1.heap.size, 3, none⟩) (by simp <;> omega) (.bool false)), ((((B1c.setCell (p := ⟨w1.heap.size, 0, none⟩) (by simp <;> omega) (.slice (some ⟨gc, 0, none⟩) ns cc)).setCell (p := ⟨w1.heap.size, 1, none⟩) (by simp <;> omega) (.slice none 0 0)).setCell (p := ⟨w1.heap.size, 2, none⟩) (by simp <;> omega) (.int .i64 dl)).setCell (p := ⟨w1.heap.size, 3, none⟩) (by simp <;> omega) (.bool false)), by omega, gbc, gxc⟩
  case rest =>
    obtain ⟨xa, gg, cc, rfl, Xx, HO, X0, RR, hB, hxa, hgg, hgx⟩ := hcut
    have gX : gg ≠ w.heap.size := by omega
    have gR : gg ≠ w.heap.size + 1 := by omega
    have xX : xa ≠ w.heap.size := by omega
    have xR : xa ≠ w.heap.size + 1 := by omega
    have HPL : ∀ l, Hid ((perf d.sectors l).length = ns) := fun l => by rw [Hid, perf_length, hns.out]
    have HPL := Lib.hid HPL
    have x0 : wc.cell? ⟨w.heap.size, 0, none⟩ = some (.slice As ns cs) := X0.cell 0
    go_wp2_with fail
    clear x0
    go_loopw [7] (fun i wr => ∃ k : Nat, k ≤ np ∧ i = .int .i64 k ∧ Hid (OwnRw wr base (Old S w) (.slice (some ⟨gg, 0, none⟩) ns cc) (perf d.sectors (d.pending.take k))) ∧ Box wr xa [.slice (some ⟨gg, 0, none⟩) ns cc, .slice none 0 0, .int .i64 dl, .bool false] ∧ Box wr (w.heap.size) [.slice As ns cs, .slice Ap np cp, .int .i64 dl, .bool false] ∧ Box wr (w.heap.size + 1) [.slice none 0 0, .slice none 0 0, .int .i64 0, .bool false] ∧ Below w.heap.size w wr) (fun i _ => np - (intOf i).toNat)
    case atStart => exact ⟨0, by omega, rfl, HO, Xx, X0, RR, hB⟩
    case round =>
      clear HO Xx X0 RR hB
      obtain ⟨k, hk, rfl, HO, Xx, X0, RR, hB⟩ := hrel
      by_cases hlt : k < np
      · have hkl : k < d.pending.length := by rw [hnp.out]; omega
        obtain ⟨pb, po, U, rfl, hSp, hpb, q0, q1, hU⟩ := hD.out.pending.wr hkl
        obtain ⟨hi1, hi2⟩ := HIN.out _ (List.getElem_mem hkl)
        rw [hns.out] at hi2
        have q0 := (hB.cell hpb).trans q0
        have q1 := (hB.cell hpb).trans q1
        have hU := hU.old.keep (Keeps.of hB)
        have hpt := perf_take (s := d.sectors) hkl
        obtain ⟨⟨ta, xd⟩, hx⟩ : ∃ x, d.pending[k] = x := ⟨_, rfl⟩
        rw [hx] at q0 hU hi1 hi2 hpt
        dsimp only at q0 hU hi1 hi2 hpt
        obtain ⟨Au, cu, rfl, _⟩ := hU.form
        obtain ⟨ul, hul⟩ : ∃ ul, xd.length = ul := ⟨_, rfl⟩
        rw [hul] at q1 hU
        obtain ⟨a, rfl⟩ : ∃ a : Nat, ta = a := ⟨ta.toNat, by omega⟩
        have HPT := Lib.hid hpt
        have HU := Lib.hid hU
        have ha : a < ns := by omega
        have gp : gg ≠ pb := by omega
        have hpW := Nat.lt_of_lt_of_le hpb hB.size
        clear hx hpt hU hi1 hul hSp
        obtain ⟨g', c', e', _, _, hgw, hgc, hgf⟩ := HO.out.row (HPL.out _).out hns0
        cases e'
        obtain ⟨u, hu, _⟩ := hgc a ha
        have hf := hgf a
        clear hgc hgf
        have x0 : wr.cell? ⟨xa, 0, none⟩ = some (.slice (some ⟨gg, 0, none⟩) ns cc) := Xx.cell 0
        have x1 : wr.cell? ⟨w.heap.size, 1, none⟩ = some (.slice (some ⟨pb, po, none⟩) np cp) := X0.cell 1
        have xz := Xx.lt
        have yz := X0.lt
        have k0 : (0 : Int) ≤ (k : Int) := by omega
        have k1 : (k : Int) < (np : Int) := by omega
        have a0 : (0 : Int) ≤ (a : Int) := by omega
        have a1 : (a : Int) < (ns : Int) := by omega
        go_wp2_with fail
        go_region
        go_wp2
        refine ⟨⟨k + 1, by omega, by go_num, ?_, (Xx.other (a := ⟨gg, a, none⟩) (Ne.symm hgx) _).drew, (X0.other (a := ⟨gg, a, none⟩) (Ne.symm gX) _).drew, (RR.other (a := ⟨gg, a, none⟩) (Ne.symm gR) _).drew, (hB.setCell (p := ⟨gg, a, none⟩) (by simp <;> omega) _).drew⟩, by simp [intOf]; omega⟩
        rw [HPT.out, Int.toNat_natCast]
        exact HO.out.set (nS.out _ hgg) ha (HPL.out _).out HU.out
      · obtain rfl : np = k := by omega
        have hfull : Hid (d.pending.take np = d.pending) := by rw [Hid]; rw [← hnp.out, List.take_length]
        rw [hfull.out] at HO
        have x0 : wr.cell? ⟨xa, 0, none⟩ = some (.slice (some ⟨gg, 0, none⟩) ns cc) := Xx.cell 0
        have x1 : wr.cell? ⟨xa, 1, none⟩ = some (.slice none 0 0) := Xx.cell 1
        have x2 : wr.cell? ⟨xa, 2, none⟩ = some (.int .i64 dl) := Xx.cell 2
        have x3 : wr.cell? ⟨xa, 3, none⟩ = some (.bool false) := Xx.cell 3
        have xf2 := Xx.free 2
        have xf3 := Xx.free 3
        have xz := Xx.lt
        have r0 : wr.cell? ⟨w.heap.size + 1, 0, none⟩ = some (.slice none 0 0) := RR.cell 0
        have r1 : wr.cell? ⟨w.heap.size + 1, 1, none⟩ = some (.slice none 0 0) := RR.cell 1
        have r2 : wr.cell? ⟨w.heap.size + 1, 2, none⟩ = some (.int .i64 0) := RR.cell 2
        have r3 : wr.cell? ⟨w.heap.size + 1, 3, none⟩ = some (.bool false) := RR.cell 3
        have rf0 := RR.free 0
        have rf1 := RR.free 1
        have rf2 := RR.free 2
        have rf3 := RR.free 3
        have rz := RR.lt
        go_wp2
        have nR : ¬ Old S w (w.heap.size + 1) := fun h => by have := h.2; omega
        have ZR := (((((RR.other (a := ⟨xa, 2, none⟩) (Ne.symm xR) (.int .i64 (dl - (np : Int)))).set 0 (.slice (some ⟨gg, 0, none⟩) ns cc)).set 1 (.slice none 0 0)).set 2 (.int .i64 (dl - (np : Int)))).set 3 (.bool false))
        have HB := (((((hB.setCell (p := ⟨xa, 2, none⟩) (by simp <;> omega) (.int .i64 (dl - (np : Int)))).setCell (p := ⟨w.heap.size + 1, 0, none⟩) (by simp <;> omega) (.slice (some ⟨gg, 0, none⟩) ns cc)).setCell (p := ⟨w.heap.size + 1, 1, none⟩) (by simp <;> omega) (.slice none 0 0)).setCell (p := ⟨w.heap.size + 1, 2, none⟩) (by simp <;> omega) (.int .i64 (dl - (np : Int)))).setCell (p := ⟨w.heap.size + 1, 3, none⟩) (by simp <;> omega) (.bool false))
        have hO9 := (((((HO.out.other (x := xa) (o := 2) (nS.out _ hxa) hgx (.int .i64 (dl - (np : Int)))).other (x := w.heap.size + 1) (o := 0) nR gR (.slice (some ⟨gg, 0, none⟩) ns cc)).other (x := w.heap.size + 1) (o := 1) nR gR (.slice none 0 0)).other (x := w.heap.size + 1) (o := 2) nR gR (.int .i64 (dl - (np : Int)))).other (x := w.heap.size + 1) (o := 3) nR gR (.bool false))
        clear x0 x1 x2 x3 xf2 xf3 xz r0 r1 r2 r3 rf0 rf1 rf2 rf3 rz
        generalize (((((wr.setCell ⟨xa, 2, none⟩ (.int .i64 (dl - (np : Int)))).setCell ⟨w.heap.size + 1, 0, none⟩ (.slice (some ⟨gg, 0, none⟩) ns cc)).setCell ⟨w.heap.size + 1, 1, none⟩ (.slice none 0 0)).setCell ⟨w.heap.size + 1, 2, none⟩ (.int .i64 (dl - (np : Int)))).setCell ⟨w.heap.size + 1, 3, none⟩ (.bool false)) = W at ZR HB hO9 ⊢
        have z0 : W.cell? ⟨w.heap.size + 1, 0, none⟩ = some (.slice (some ⟨gg, 0, none⟩) ns cc) := ZR.cell 0
        have z1 : W.cell? ⟨w.heap.size + 1, 1, none⟩ = some (.slice none 0 0) := ZR.cell 1
        have z2 : W.cell? ⟨w.heap.size + 1, 2, none⟩ = some (.int .i64 (dl - (np : Int))) := ZR.cell 2
        have z3 : W.cell? ⟨w.heap.size + 1, 3, none⟩ = some (.bool false) := ZR.cell 3
        refine bodyPost_ret (v := .tuple #[.agg #[.slice (some ⟨gg, 0, none⟩) ns cc, .slice none 0 0, .int .i64 (dl - (np : Int)), .bool false], .int .i64 0]) (by simp [results, Try.results48, go_sem, z0, z1, z2, z3]) rfl ?_
        refine ⟨_, _, _, 0, rfl, hs, Lib.hid ⟨?_, wsAt_nil _ _⟩, HB⟩
        exact hO9.rows (by rw [(HPL.out _).out]; have := hns4.out; rw [hns.out] at this; unfold maxLen; omega) (fun b h _ => .inl h.1) (fun b h => .inr (by omega))

end Go.Proofs.Ythlidhfahaalgaa

/-
  Contracts of chapter 4 with their results named, for the walks of its laws. No condition.
-/
namespace Go.Proofs.Ythlidhfahaalgaa
open Go.RowKit

/-- Blocks other than those of the list. -/
def Out (L : List Nat) : Nat → Prop := fun b => b ∉ L
/-- All blocks of the list lie there. -/
def InW (L : List Nat) (w : World) : Prop := ∀ a ∈ L, a < w.heap.size
theorem InW.nil (w : World) : InW [] w := fun a h => by cases h
theorem InW.later {L : List Nat} {w w' : World} (h : InW L w) (hb : w.heap.size ≤ w'.heap.size) : InW L w' := fun a ha => Nat.lt_of_lt_of_le (h a ha) hb
theorem InW.cons {L : List Nat} {w : World} {a : Nat} (h : InW L w) (ha : a < w.heap.size) : InW (a :: L) w := fun b hb => by
  rcases List.mem_cons.1 hb with rfl | hb
  · exact ha
  · exact h b hb
theorem Out.grow {L : List Nat} {w : World} (h : InW L w) {b : Nat} (hb : Grow (Out L) w b) : Out L b := by
  rcases hb with hb | hb
  · exact hb
  · intro hL; have := h b hL; omega
section
variable {w w' : World} {L : List Nat} {Vs Vp : Value} {d : Dk}
theorem dk_later (h : Hid (DkAt w (Out L) Vs Vp d)) (hb : Below w.heap.size w w') : Hid (DkAt w' (Out L) Vs Vp d) := Lib.hid (h.out.keep (Keeps.of hb))
theorem dk_set {a : Nat} (ha : a ∈ L) (h : Hid (DkAt w (Out L) Vs Vp d)) (o : Nat) (u : Value) : Hid (DkAt (w.setCell ⟨a, o, none⟩ u) (Out L) Vs Vp d) := Lib.hid (h.out.keep (Keeps.set w (a := ⟨a, o, none⟩) (fun hc => hc ha) u))
/-- A block that is new is none of the datum's. -/
theorem dk_more {a : Nat} (ha : w.heap.size ≤ a) (h : Hid (DkAt w (Out L) Vs Vp d)) : Hid (DkAt w (Out (a :: L)) Vs Vp d) := Lib.hid (h.out.weak fun b hb hl hc => by
  rcases List.mem_cons.1 hc with rfl | hc
  · omega
  · exact hb hc)
theorem bs_later {V : Value} {b : Bs} (h : Hid (BsAt w (Out L) V b)) (hb : Below w.heap.size w w') : Hid (BsAt w' (Out L) V b) := Lib.hid (h.out.keep (Keeps.of hb))
theorem bs_set {V : Value} {b : Bs} {a : Nat} (ha : a ∈ L) (h : Hid (BsAt w (Out L) V b)) (o : Nat) (u : Value) : Hid (BsAt (w.setCell ⟨a, o, none⟩ u) (Out L) V b) := Lib.hid (h.out.keep (Keeps.set w (a := ⟨a, o, none⟩) (fun hc => hc ha) u))
theorem bs_more {V : Value} {b : Bs} {a : Nat} (ha : w.heap.size ≤ a) (h : Hid (BsAt w (Out L) V b)) : Hid (BsAt w (Out (a :: L)) V b) := Lib.hid (h.out.weak fun c hb hl hc => by
  rcases List.mem_cons.1 hc with rfl | hc
  · omega
  · exact hb hc)
end
/-- A result that is a disk, its slices written out. -/
theorem RetDk.is {t : Dk × Int} {L : List Nat} {w w' : World} {e : Ending} {m : Dk} {er : Int} {ns np : Nat} {dl : Int} {ds : Bool} (hh : RetDk t (Out L) w e w') (hL : InW L w) (ht : Hid (t = (m, er))) (h1 : Hid (m.sectors.length = ns)) (h2 : Hid (m.pending.length = np)) (h3 : Hid (m.left = dl)) (h4 : Hid (m.stopped = ds)) :
    ∃ (As : Option Addr) (cs : Nat) (Ap : Option Addr) (cp : Nat), e = .returned (.tuple #[.agg #[.slice As ns cs, .slice Ap np cp, .int .i64 dl, .bool ds], .int .i64 er]) ∧ Hid (DkAt w' (Out L) (.slice As ns cs) (.slice Ap np cp) m) ∧ Below w.heap.size w w' := by
  obtain ⟨Vs, Vp, m', er', he, ht', hD, hb⟩ := hh
  have h5 := ht'.symm.trans ht.out
  injection h5 with h5 h6
  subst h5 h6
  obtain ⟨As, cs, rfl, _⟩ := hD.out.sectors.form
  obtain ⟨Ap, cp, rfl, _⟩ := hD.out.pending.form
  rw [h1.out, h2.out] at hD
  rw [Dk.v, h1.out, h2.out, h3.out, h4.out] at he
  exact ⟨As, cs, Ap, cp, he, Lib.hid (hD.out.weak fun b hb _ => Out.grow hL hb), hb⟩
theorem RetD1.is {t : Dk} {L : List Nat} {w w' : World} {e : Ending} {ns np : Nat} {dl : Int} {ds : Bool} (hh : RetD1 t (Out L) w e w') (hL : InW L w) (h1 : Hid (t.sectors.length = ns)) (h2 : Hid (t.pending.length = np)) (h3 : Hid (t.left = dl)) (h4 : Hid (t.stopped = ds)) :
    ∃ (As : Option Addr) (cs : Nat) (Ap : Option Addr) (cp : Nat), e = .returned (.agg #[.slice As ns cs, .slice Ap np cp, .int .i64 dl, .bool ds]) ∧ Hid (DkAt w' (Out L) (.slice As ns cs) (.slice Ap np cp) t) ∧ Below w.heap.size w w' := by
  obtain ⟨Vs, Vp, m', he, ht', hD, hb⟩ := hh
  have h5 := ht'.out
  subst h5
  obtain ⟨As, cs, rfl, _⟩ := hD.out.sectors.form
  obtain ⟨Ap, cp, rfl, _⟩ := hD.out.pending.form
  rw [h1.out, h2.out] at hD
  rw [Dk.v, h1.out, h2.out, h3.out, h4.out] at he
  exact ⟨As, cs, Ap, cp, he, Lib.hid (hD.out.weak fun b hb _ => Out.grow hL hb), hb⟩
theorem RetBs.is {t : Bs × Int} {L : List Nat} {w w' : World} {e : Ending} {b : Bs} {er : Int} {n : Nat} (hh : RetBs t (Out L) w e w') (hL : InW L w) (ht : Hid (t = (b, er))) (h1 : Hid (b.length = n)) :
    ∃ (A : Option Addr) (c : Nat), e = .returned (.tuple #[.slice A n c, .int .i64 er]) ∧ Hid (BsAt w' (Out L) (.slice A n c) b) ∧ Below w.heap.size w w' := by
  obtain ⟨V, m', er', he, ht', hD, hb⟩ := hh
  have h5 := ht'.symm.trans ht.out
  injection h5 with h5 h6
  subst h5 h6
  obtain ⟨A, c, rfl, _⟩ := hD.out.form
  rw [h1.out] at hD he
  exact ⟨A, c, he, Lib.hid (hD.out.weak fun b hb _ => Out.grow hL hb), hb⟩
/-- The contracts at a disk whose parts have names. -/
structure DkIs (d : Dk) (l : Int) (s : Bool) : Prop where
  left : d.left = l
  stopped : d.stopped = s
section
variable {d : Dk} {Vs Vp : Value} {L : List Nat} {w : World} {l : Int} {s : Bool}
theorem dWrite_at (i : Int) {Vb : Value} {b : Bs} (hD : Hid (DkAt w (Out L) Vs Vp d)) (hd : DkIs d l s) (hb : Hid (BsAt w (Out L) Vb b)) : Calls Try.prog 26 #[.agg #[Vs, Vp, .int .i64 l, .bool s], .int .i64 i, Vb] w (RetDk (writeT d i b) (Out L) w) := by
  have := dWrite_any d Vs Vp i Vb b (Out L) w hD.out hb.out
  rwa [Dk.v, hd.left, hd.stopped] at this
theorem dRWrite_at (i : Int) {Vb : Value} {b : Bs} (hD : Hid (DkAt w (Out L) Vs Vp d)) (hd : DkIs d l s) (hb : Hid (BsAt w (Out L) Vb b)) : Calls Try.prog 46 #[.agg #[Vs, Vp, .int .i64 l, .bool s], .int .i64 i, Vb] w (RetDk (writeT d i b) (Out L) w) := by
  have := dRWrite_any d Vs Vp i Vb b (Out L) w hD.out hb.out
  rwa [Dk.v, hd.left, hd.stopped] at this
theorem dSync_at (hD : Hid (DkAt w (Out L) Vs Vp d)) (hd : DkIs d l s) : Calls Try.prog 27 #[.agg #[Vs, Vp, .int .i64 l, .bool s]] w (RetDk (syncT d) (Out L) w) := by
  have := dSync_any d Vs Vp (Out L) w hD.out
  rwa [Dk.v, hd.left, hd.stopped] at this
theorem dStop_at (k : Int) (hD : Hid (DkAt w (Out L) Vs Vp d)) (hd : DkIs d l s) : Calls Try.prog 29 #[.agg #[Vs, Vp, .int .i64 l, .bool s], .int .i64 k] w (RetDk (stopT d k) (Out L) w) := by
  have := dStop_any d Vs Vp k (Out L) w hD.out
  rwa [Dk.v, hd.left, hd.stopped] at this
theorem dRestart_at (hD : Hid (DkAt w (Out L) Vs Vp d)) (hd : DkIs d l s) : Calls Try.prog 30 #[.agg #[Vs, Vp, .int .i64 l, .bool s]] w (RetD1 (restartT d) (Out L) w) := by
  have := dRestart_any d Vs Vp (Out L) w hD.out
  rwa [Dk.v, hd.left, hd.stopped] at this
theorem dCheck_is {c : Int} (hD : Hid (DkAt w (Out L) Vs Vp d)) (hd : DkIs d l s) (hc : Hid (d.checkT = c)) : Calls Try.prog 31 #[.agg #[Vs, Vp, .int .i64 l, .bool s]] w fun e w' => e = .returned (.int .i64 c) ∧ Below w.heap.size w w' := by
  have := dCheck_any d Vs Vp (Out L) w hD.out
  rwa [Dk.v, hd.left, hd.stopped, hc.out] at this
theorem dRCheck_is {c : Int} (hD : Hid (DkAt w (Out L) Vs Vp d)) (hd : DkIs d l s) (hc : Hid (d.checkT = c)) : Calls Try.prog 33 #[.agg #[Vs, Vp, .int .i64 l, .bool s]] w fun e w' => e = .returned (.int .i64 c) ∧ Below w.heap.size w w' := by
  have := dRCheck_any d Vs Vp (Out L) w hD.out
  rwa [Dk.v, hd.left, hd.stopped, hc.out] at this
theorem dSame_is {a : Dk} {Ua Ub : Value} {l' : Int} {s' : Bool} {t : Bool} (hD : Hid (DkAt w (Out L) Vs Vp d)) (hE : Hid (DkAt w (Out L) Ua Ub a)) (hd : DkIs d l s) (ha : DkIs a l' s') (ht : Hid (sameD d a = t)) : Calls Try.prog 23 #[.agg #[Vs, Vp, .int .i64 l, .bool s], .agg #[Ua, Ub, .int .i64 l', .bool s']] w fun e w' => e = .returned (.bool t) ∧ Below w.heap.size w w' := by
  have := dSame_any d a Vs Vp Ua Ub (Out L) (Out L) w hD.out hE.out
  rwa [Dk.v, Dk.v, hd.left, hd.stopped, ha.left, ha.stopped, ht.out] at this
end

end Go.Proofs.Ythlidhfahaalgaa

/-
  Restart with its result written out; double. No condition.
-/
namespace Go.Proofs.Ythlidhfahaalgaa
open Go.RowKit
attribute [local go_sem ↓ high] app_named cop_named

abbrev restV (As : Option Addr) (ns cs : Nat) : Value := .agg #[.slice As ns cs, .slice none 0 0, .int .i64 (-1), .bool false]
theorem dRestart_eq (As : Option Addr) (ns cs : Nat) (Vp : Value) (l : Int) (s : Bool) (w : World) : Calls Try.prog 30 #[.agg #[.slice As ns cs, Vp, .int .i64 l, .bool s]] w fun e w' => e = .returned (restV As ns cs) ∧ Below w.heap.size w w' := by
  go_enter Try.func30, Try.ntmps30
  go_wp2
  refine bodyPost_ret (v := restV As ns cs) (by simp [results, Try.results30, go_sem]) rfl ?_
  exact ⟨rfl, ((Below.refl _ _).alloc (Nat.le_refl _) _).alloc (by simp) _⟩
/-- What double returns. -/
def doubleB (c : UInt8) : Bs := (zeros.set 0 c).set 64 c
theorem double_length (c : UInt8) : (doubleB c).length = 128 := by rw [doubleB, List.length_set, List.length_set, zeros_length]
theorem byV_set (l : Bs) (i : Nat) (c : UInt8) : (byV l).set i (.int .u8 (c.toNat : Int)) = byV (l.set i c) := by simp [byV, List.map_set]
end Go.Proofs.Ythlidhfahaalgaa

/-
  Plain facts on disks: what stays valid. No condition.
-/
namespace Go.Proofs.Ythlidhfahaalgaa
open Go.RowKit

theorem okB_of {d : Dk} (h1 : 1 ≤ d.sectors.length) (h2 : d.sectors.length ≤ 4096) (h3 : d.pending.length ≤ 4096) (h4 : -1 ≤ d.left) (h5 : d.left ≤ 65536) (h6 : ∀ x ∈ d.pending, 0 ≤ x.at' ∧ x.at' < (d.sectors.length : Int) ∧ x.data.length = 128) (h7 : ∀ x ∈ d.sectors, x.length = 128) : d.okB = true := by
  simp only [Dk.okB, boundsB, wrB, secB, Bool.and_eq_true, decide_eq_true_eq, List.all_eq_true]
  exact ⟨⟨h1, h2, h3, h4, h5⟩, fun x hx => ⟨⟨(h6 x hx).1, (h6 x hx).2.1⟩, (h6 x hx).2.2⟩, h7⟩
theorem runs_of {d : Dk} (h : d.okB = true) (hs : d.stopped = false) : d.runs = true := by rw [runs_eq, h, hs]; rfl
theorem hasB_of {d : Dk} {i : Int} (h1 : 0 ≤ i) (h2 : i < (d.sectors.length : Int)) : d.hasB i = true := by rw [Dk.hasB, decide_eq_true h1, decide_eq_true h2]; rfl
theorem padTo_length {b : Bs} (h : b.length ≤ 128) : (padTo b).length = 128 := by rw [padTo, List.length_append, List.length_replicate]; omega
theorem padTo_full {b : Bs} (h : b.length = 128) : padTo b = b := by rw [padTo, h]; simp
/-- A disk after a write. -/
def Dk.put (d : Dk) (i : Int) (b : Bs) : Dk := ⟨d.sectors, d.pending ++ [⟨i, padTo b⟩], d.left, d.stopped⟩
theorem write_eq {d : Dk} {i : Int} {b : Bs} (hr : d.runs = true) (hh : d.hasB i = true) (hb : b.length ≤ 128) (hp : d.pending.length ≠ 4096) : writeT d i b = (d.put i b, 0) := by rw [writeT, if_pos ⟨hr, hh⟩, if_pos hb, if_neg hp]; rfl
theorem put_ok {d : Dk} {i : Int} {b : Bs} (h : d.okB = true) (hh : d.hasB i = true) (hb : b.length ≤ 128) (hp : d.pending.length < 4096) : (d.put i b).okB = true := by
  obtain ⟨h1, h2, h3, h4, h5, h6, h7⟩ := okB_parts h
  obtain ⟨k1, k2⟩ := hasB_in hh
  refine okB_of h1 h2 (by rw [Dk.put, List.length_append]; simp; omega) h4 h5 (fun x hx => ?_) h7
  rcases List.mem_append.1 hx with hx | hx
  · exact h6 x hx
  · rw [List.mem_singleton.1 hx]; exact ⟨k1, k2, padTo_length hb⟩
theorem stop_eq {d : Dk} {k : Int} (hr : d.runs = true) (h0 : 0 ≤ k) (h1 : k ≤ 65536) : stopT d k = (⟨d.sectors, d.pending, k, d.stopped⟩, 0) := by rw [stopT, if_pos hr, if_pos ⟨h0, h1⟩]
theorem stop_ok {d : Dk} {k : Int} (h : d.okB = true) (h0 : 0 ≤ k) (h1 : k ≤ 65536) : (⟨d.sectors, d.pending, k, d.stopped⟩ : Dk).okB = true := by
  obtain ⟨k1, k2, k3, k4, k5, k6, k7⟩ := okB_parts h
  exact okB_of k1 k2 k3 (by show -1 ≤ k; omega) h1 k6 k7
theorem restart_ok {d : Dk} (h : d.okB = true) : (restartT d).okB = true := by
  obtain ⟨k1, k2, k3, k4, k5, k6, k7⟩ := okB_parts h
  exact okB_of k1 k2 (by simp [restartT]) (by simp [restartT]) (by simp [restartT]) (fun x hx => by cases hx) k7
theorem perf_rows {d : Dk} (h : d.okB = true) (j : Nat) : ∀ x ∈ perf d.sectors (d.pending.take j), x.length = 128 := by
  obtain ⟨k1, k2, k3, k4, k5, k6, k7⟩ := okB_parts h
  exact perf_len k7 (fun x hx => (k6 x (List.mem_of_mem_take hx)).2.2)
theorem perf_rows' {d : Dk} (h : d.okB = true) : ∀ x ∈ perf d.sectors d.pending, x.length = 128 := by
  have := perf_rows h d.pending.length
  rwa [List.take_length] at this
theorem tornS_length {d : Dk} : (tornS d).length = d.sectors.length := by rw [tornS, List.length_set, perf_length]
theorem tornS_rows {d : Dk} (h : d.okB = true) (ht : tearB d = true) : ∀ x ∈ tornS d, x.length = 128 := by
  obtain ⟨k1, k2, k3, k4, k5, k6, k7⟩ := okB_parts h
  obtain ⟨t1, t2⟩ : 0 ≤ d.left ∧ d.left < (d.pending.length : Int) := by simpa [tearB] using ht
  have hj : d.left.toNat < d.pending.length := by omega
  have hp := perf_rows h d.left.toNat
  intro x hx
  rw [tornS] at hx
  rcases List.mem_or_eq_of_mem_set hx with hx | hx
  · exact hp x hx
  · have e : d.pending.getD d.left.toNat Wr.zero = d.pending[d.left.toNat] := by rw [List.getD_eq_getElem?_getD, List.getElem?_eq_getElem hj]; rfl
    obtain ⟨m1, m2, m3⟩ := k6 _ (List.getElem_mem hj)
    rw [hx, List.length_append, List.length_take, List.length_drop, e, m3]
    have hl : (d.pending[d.left.toNat]).at'.toNat < (perf d.sectors (d.pending.take d.left.toNat)).length := by rw [perf_length]; omega
    rw [List.getD_eq_getElem?_getD, List.getElem?_eq_getElem hl]
    have := hp _ (List.getElem_mem hl)
    simp only [Option.getD_some, this]
    rfl
theorem sync_tear {d : Dk} (hr : d.runs = true) (ht : tearB d = true) : syncT d = (⟨tornS d, [], 0, true⟩, 40) := by rw [syncT, if_pos hr, if_pos ht]
/-- A disk after a sync that does not stop. -/
def Dk.synced (d : Dk) : Dk := ⟨perf d.sectors d.pending, [], if 0 ≤ d.left then d.left - (d.pending.length : Int) else d.left, false⟩
theorem sync_go {d : Dk} (hr : d.runs = true) (ht : tearB d = false) : syncT d = (d.synced, 0) := by rw [syncT, if_pos hr, if_neg (by rw [ht]; simp)]; rfl
theorem synced_ok {d : Dk} (h : d.okB = true) (ht : tearB d = false) : d.synced.okB = true := by
  obtain ⟨k1, k2, k3, k4, k5, k6, k7⟩ := okB_parts h
  have ht' : 0 ≤ d.left → (d.pending.length : Int) ≤ d.left := by
    intro h0
    have : decide (d.left < (d.pending.length : Int)) = false := by rw [tearB, decide_eq_true h0, Bool.true_and] at ht; exact ht
    have := of_decide_eq_false this
    omega
  refine okB_of (by rw [Dk.synced, perf_length]; exact k1) (by rw [Dk.synced, perf_length]; exact k2) (by simp [Dk.synced]) ?_ ?_ (fun x hx => by cases hx) (perf_rows' h)
  · show -1 ≤ (if 0 ≤ d.left then d.left - (d.pending.length : Int) else d.left)
    split
    · rename_i h0; have := ht' h0; omega
    · exact k4
  · show (if 0 ≤ d.left then d.left - (d.pending.length : Int) else d.left) ≤ 65536
    split <;> omega
theorem torn_ok {d : Dk} (h : d.okB = true) (ht : tearB d = true) : (⟨tornS d, [], 0, true⟩ : Dk).okB = true := by
  obtain ⟨k1, k2, k3, k4, k5, k6, k7⟩ := okB_parts h
  exact okB_of (by show 1 ≤ (tornS d).length; rw [tornS_length]; exact k1) (by show (tornS d).length ≤ 4096; rw [tornS_length]; exact k2) (by simp) (by show (-1 : Int) ≤ 0; decide) (by show (0 : Int) ≤ 65536; decide) (fun x hx => by cases hx) (tornS_rows h ht)
theorem read_eq {d : Dk} {i : Int} (hr : d.runs = true) (hh : d.hasB i = true) : readT d i = (lastW d.pending i (d.sectors.getD i.toNat []), 0) := by rw [readT, if_pos ⟨hr, hh⟩]
theorem new_eq {k : Int} (h1 : 1 ≤ k) (h2 : k ≤ 4096) : newT k = (⟨List.replicate k.toNat zeros, [], -1, false⟩, 0) := by rw [newT, if_pos ⟨h1, h2⟩]
theorem new_ok {k : Nat} (h1 : 1 ≤ k) (h2 : k ≤ 4096) : (⟨List.replicate k zeros, [], -1, false⟩ : Dk).okB = true :=
  okB_of (by simpa using h1) (by simpa using h2) (by simp) (by show (-1 : Int) ≤ -1; decide) (by show (-1 : Int) ≤ 65536; decide) (fun x hx => by cases hx) (fun x hx => by rw [List.eq_of_mem_replicate hx]; exact zeros_length)

/-- The disks of the example. -/
def e7 : Bs := padTo [7]
def eN : Dk := ⟨[zeros, zeros], [], -1, false⟩
def eW : Dk := ⟨[zeros, zeros], [⟨1, e7⟩], -1, false⟩
def eS : Dk := ⟨[zeros, zeros], [⟨1, e7⟩], 1, false⟩
def e8 : Bs := doubleB 8
def eS2 : Dk := ⟨[zeros, zeros], [⟨1, e7⟩, ⟨0, e8⟩], 1, false⟩
def eT : Bs := e8.take 64 ++ zeros.drop 64
def eX : Dk := ⟨[eT, e7], [], 0, true⟩
def eX2 : Dk := ⟨[eT, e7], [], -1, false⟩
theorem e7_length : e7.length = 128 := padTo_length (by decide)
theorem e8_length : e8.length = 128 := double_length 8
theorem eT_length : eT.length = 128 := by rw [eT, List.length_append, List.length_take, List.length_drop, e8_length, zeros_length]; rfl
theorem eN_ok : eN.okB = true := new_ok (k := 2) (by decide) (by decide)
theorem sane_new0 : newT 0 = (Dk.zero, 1) := by rw [newT, if_neg (by decide)]
theorem sane_new : newT 2 = (eN, 0) := new_eq (by decide) (by decide)
theorem sane_write : writeT eN 1 [7] = (eW, 0) := write_eq (runs_of eN_ok rfl) (hasB_of (by decide) (by decide)) (by decide) (by decide)
theorem eW_ok : eW.okB = true := put_ok (d := eN) (i := 1) (b := [7]) eN_ok (hasB_of (by decide) (by decide)) (by decide) (by decide)
theorem sane_read : readT eW 1 = (e7, 0) := read_eq (runs_of eW_ok rfl) (hasB_of (by decide) (by decide))
theorem sane_read2 : readT eN 2 = ([], 40) := by rw [readT, if_neg (by rintro ⟨_, h⟩; have := (hasB_in h).2; simp [eN] at this)]
theorem sane_long {b : Bs} (hb : b.length = 129) : writeT eN 0 b = (Dk.zero, 1) := by rw [writeT, if_pos ⟨runs_of eN_ok rfl, hasB_of (by decide) (by decide)⟩, if_neg (by omega)]
theorem sane_stop : stopT eW 1 = (eS, 0) := stop_eq (runs_of eW_ok rfl) (by decide) (by decide)
theorem eS_ok : eS.okB = true := stop_ok (d := eW) (k := 1) eW_ok (by decide) (by decide)
theorem sane_write2 : writeT eS 0 e8 = (eS2, 0) := by
  rw [write_eq (runs_of eS_ok rfl) (hasB_of (by decide) (by decide)) (by rw [e8_length]; decide) (by decide), Dk.put, padTo_full e8_length]
  rfl
theorem eS2_ok : eS2.okB = true := by
  have := put_ok (d := eS) (i := 0) (b := e8) eS_ok (hasB_of (by decide) (by decide)) (by rw [e8_length]; decide) (by decide)
  rw [Dk.put, padTo_full e8_length] at this
  exact this
theorem sane_sync : syncT eS2 = (eX, 40) := by
  rw [sync_tear (runs_of eS2_ok rfl) (by decide)]
  rfl
theorem eX_ok : eX.okB = true := torn_ok (d := eS2) eS2_ok (by decide)
theorem eX2_ok : eX2.okB = true := restart_ok (d := eX) eX_ok
theorem sane_one : readT eX2 1 = (e7, 0) := read_eq (runs_of eX2_ok rfl) (hasB_of (by decide) (by decide))
theorem sane_none : readT eX2 0 = (eT, 0) := read_eq (runs_of eX2_ok rfl) (hasB_of (by decide) (by decide))
theorem sane_lost : readT (restartT eW) 1 = (zeros, 0) := read_eq (runs_of (restart_ok eW_ok) rfl) (hasB_of (by decide) (by decide))
theorem zero_check : Dk.zero.checkT = 40 := by decide
theorem e7_0 : e7.getD 0 0 = 7 := rfl
theorem eT_0 : eT.getD 0 0 = 8 := by decide +kernel
theorem eT_64 : eT.getD 64 0 = 0 := by decide +kernel
theorem z_0 : zeros.getD 0 0 = 0 := rfl

end Go.Proofs.Ythlidhfahaalgaa

/-
  Contract of Sync of the reference of chapter 4, whole. No condition.
-/
namespace Go.Proofs.Ythlidhfahaalgaa
open Go.RowKit

theorem dRSync_any (d : Dk) (Vs Vp : Value) (S : Nat → Prop) (w : World) (hD : DkAt w S Vs Vp d) : Calls Try.prog 48 #[d.v Vs Vp] w (RetDk (syncT d) S w) := by
  obtain ⟨As, cs, rfl, _⟩ := hD.sectors.form
  obtain ⟨Ap, cp, rfl, _⟩ := hD.pending.form
  obtain ⟨ns, hns⟩ : ∃ k, d.sectors.length = k := ⟨_, rfl⟩
  obtain ⟨np, hnp⟩ : ∃ k, d.pending.length = k := ⟨_, rfl⟩
  obtain ⟨dl, hdl⟩ : ∃ k, d.left = k := ⟨_, rfl⟩
  obtain ⟨ds, hds⟩ : ∃ k, d.stopped = k := ⟨_, rfl⟩
  rw [Dk.v, hns, hnp, hdl, hds]
  rw [hns, hnp] at hD
  rcases hok : d.okB with _ | _
  · have hr : d.runs = false := by rw [Dk.runs, hok]; rfl
    exact dRSync_1 d As ns cs Ap np cp dl ds S w hD hdl hds (Lib.hid (by rw [Dk.checkT, hok]; rfl)) (Lib.hid (by rw [syncT, hr]; rfl))
  · have hc : d.checkT = 0 := by rw [Dk.checkT, hok]; rfl
    rcases ds with _ | _
    · have hr : d.runs = true := by rw [Dk.runs, hok, hds]; rfl
      obtain ⟨k1, k2, k3, k4, k5, _⟩ := okB_parts hok
      rw [hdl] at k4 k5
      by_cases h0 : dl < 0
      · refine dRSync_5 d As ns cs Ap np cp dl S w hD hdl hds hc hr hnp hns h0 (Lib.hid ?_)
        have ht : tearB d = false := by rw [tearB, hdl, decide_eq_false (by omega)]; rfl
        rw [syncT, if_pos hr, ht, if_neg (by decide), hdl, if_neg (by omega)]
      · by_cases h1 : dl < (np : Int)
        · obtain ⟨j, rfl⟩ : ∃ j : Nat, dl = j := ⟨dl.toNat, by omega⟩
          refine dRSync_3 d As ns cs Ap np cp j S w hD hdl hds hc hr hnp hns (by omega) (Lib.hid ?_)
          have ht : tearB d = true := by rw [tearB, hdl, hnp, decide_eq_true (by omega), decide_eq_true h1]; rfl
          rw [syncT, if_pos hr, if_pos ht]
        · refine dRSync_4 d As ns cs Ap np cp dl S w hD hdl hds hc hr hnp hns (by omega) (by omega) (by omega) (Lib.hid ?_)
          have ht : tearB d = false := by rw [tearB, hdl, hnp, decide_eq_false h1, Bool.and_false]
          rw [syncT, if_pos hr, ht, if_neg (by decide), hdl, hnp, if_pos (by omega)]
    · have hr : d.runs = false := by rw [Dk.runs, hds]; simp
      exact dRSync_2 d As ns cs Ap np cp dl S w hD hdl hds hc (Lib.hid (by rw [syncT, hr]; rfl))
theorem dRSync_at {d : Dk} {Vs Vp : Value} {L : List Nat} {w : World} {l : Int} {s : Bool} (hD : Hid (DkAt w (Out L) Vs Vp d)) (hd : DkIs d l s) : Calls Try.prog 48 #[.agg #[Vs, Vp, .int .i64 l, .bool s]] w (RetDk (syncT d) (Out L) w) := by
  have := dRSync_any d Vs Vp (Out L) w hD.out
  rwa [Dk.v, hd.left, hd.stopped] at this

end Go.Proofs.Ythlidhfahaalgaa
