/- sane of the laws of chapter 5: the walk. (Printed by gen_mb.py.) -/
import Derived.Test.YthlidhfahaalgaaQK
import Derived.Test.YthlidhfahaalgaaQLG
import Derived.Lib.SlBytesConst
import Derived.Lib.SmallJoins
import Derived.Test.YthlidhfahaalgaaQJW
import Derived.Test.YthlidhfahaalgaaQKB
import Derived.Maps.AppendAt
import Derived.Laws.Bits64
set_option linter.unusedVariables false
set_option linter.unusedSimpArgs false
set_option maxRecDepth 100000
set_option maxHeartbeats 16000000
namespace Go.Proofs.Ythlidhfahaalgaa
open Go.RowKit
attribute [local go_sem ↓ high] app_named cop_named
theorem saneD1_l : saneD1.sectors.length = 1 ∧ saneD1.pending.length = 0 ∧ saneD1.left = -1 ∧ saneD1.stopped = false := by decide +kernel
theorem saneD2_l : saneD2.sectors.length = 1 ∧ saneD2.pending.length = 0 ∧ saneD2.left = -1 ∧ saneD2.stopped = false := by decide +kernel
theorem saneJ0_l : saneJ0.records.length = 0 ∧ saneJ0.many = 1 ∧ saneJ0.synced = 0 ∧ sumB saneJ0.records ≤ 4194304 := by decide +kernel
theorem saneJ1_l : saneJ1.records.length = 1 ∧ saneJ1.many = 1 ∧ saneJ1.synced = 0 ∧ sumB saneJ1.records ≤ 4194304 := by decide +kernel
theorem saneJ2_l : saneJ2.records.length = 1 ∧ saneJ2.many = 1 ∧ saneJ2.synced = 1 ∧ sumB saneJ2.records ≤ 4194304 := by decide +kernel
theorem saneJ3_l : saneJ3.records.length = 1 ∧ saneJ3.many = 1 ∧ saneJ3.synced = 1 ∧ sumB saneJ3.records ≤ 4194304 := by decide +kernel
def RetDkB (D : Dk) (er : Int) (w : World) (e : Ending) (w' : World) : Prop := ∃ (As : Option Addr) (cs : Nat) (Ap : Option Addr) (cp : Nat), e = .returned (.tuple #[.agg #[.slice As 1 cs, .slice Ap 0 cp, .int .i64 (-1), .bool false], .int .i64 er]) ∧ Hid (DkAt w' (fun _ => True) (.slice As 1 cs) (.slice Ap 0 cp) D) ∧ Below w.heap.size w w'
theorem sNew (w : World) : Calls Try.prog 25 #[.int .i64 1] w (RetDkB saneD1 0 w) := (dNew_any 1 (fun _ => True) w).mono (by
  rintro e w1 ⟨V1, V2, m, er, rfl, ht, hD1, hb1⟩
  obtain rfl : saneD1 = m := congrArg Prod.fst ht.out
  obtain rfl : (0 : Int) = er := sane_1.symm.trans (congrArg Prod.snd ht.out)
  have hD1 := hD1.out.weak (S' := fun _ => True) fun _ _ _ => trivial
  obtain ⟨As1, cs1, rfl, _⟩ := hD1.sectors.form
  obtain ⟨Ap1, cp1, rfl, _⟩ := hD1.pending.form
  obtain ⟨l1, l2, l3, l4⟩ := saneD1_l
  rw [l1, l2] at hD1
  rw [Dk.v, l1, l2, l3, l4]
  exact ⟨As1, cs1, Ap1, cp1, rfl, hD1, hb1⟩)
def RetJnB (J : Jn) (n : Nat) (many sync er : Int) (w : World) (e : Ending) (w' : World) : Prop := ∃ (A : Option Addr) (c : Nat), e = .returned (.tuple #[.agg #[.slice A n c, .int .i64 many, .int .i64 sync], .int .i64 er]) ∧ Hid (RwAt w' (fun _ => True) (.slice A n c) J.records) ∧ Below w.heap.size w w'
theorem retJnB {J : Jn} {n : Nat} {many sync er : Int} {t : Jn × Int} {S : Nat → Prop} {w : World} (ht : t = (J, er)) (h1 : J.records.length = n) (h2 : J.many = many) (h3 : J.synced = sync) : ∀ e w', RetJn t S w e w' → RetJnB J n many sync er w e w' := by
  rintro e w' ⟨A, n', c, m, er', rfl, h, hl, hr, hb⟩
  obtain ⟨rfl, rfl⟩ := Prod.mk.inj (ht.symm.trans h.out)
  obtain rfl : n = n' := h1.symm.trans hl.out
  rw [h2, h3]
  exact ⟨A, c, rfl, hr.out.weak fun _ _ _ => trivial, hb⟩
theorem sOpen {D : Dk} {J : Jn} {n : Nat} {many sync : Int} {As Ap : Option Addr} {cs cp : Nat} {w : World} (hl : D.left = -1) (hs : D.stopped = false) (hD : Hid (DkAt w (fun _ => True) (.slice As 1 cs) (.slice Ap 0 cp) D)) (ht : openT D = (J, 0)) (h1 : J.records.length = n) (h2 : J.many = many) (h3 : J.synced = sync) :
    Calls Try.prog 12 #[.agg #[.slice As 1 cs, .slice Ap 0 cp, .int .i64 (-1), .bool false]] w (RetJnB J n many sync 0 w) := by
  have := (jOpen_any D _ _ _ w hD.out).mono (retJnB ht h1 h2 h3)
  rwa [Dk.v, hl, hs] at this
theorem sAppend {J J' : Jn} {n n' : Nat} {many sync many' sync' er : Int} {A Ab : Option Addr} {c nb cb : Nat} {b : Bs} {w : World} (h : Hid (RwAt w (fun _ => True) (.slice A n c) J.records)) (hl : J.records.length = n ∧ J.many = many ∧ J.synced = sync ∧ sumB J.records ≤ 4194304) (hb : BsAt w (fun _ => True) (.slice Ab nb cb) b) (hnb : b.length = nb) (hnb2 : nb ≤ 1000) (ht : appendT J b = (J', er)) (h1 : J'.records.length = n') (h2 : J'.many = many') (h3 : J'.synced = sync') :
    Calls Try.prog 15 #[.agg #[.slice A n c, .int .i64 many, .int .i64 sync], .slice Ab nb cb] w (RetJnB J' n' many' sync' er w) :=
  (jAppend_any J A n c many sync b Ab nb cb _ w h hl.1 hl.2.1 hl.2.2.1 hl.2.2.2 hb hnb (by omega)).mono (retJnB ht h1 h2 h3)
theorem sSync {J J' : Jn} {D D' : Dk} {n n' ns' np' : Nat} {many sync many' sync' er dl' : Int} {ds' : Bool} {A As Ap : Option Addr} {c cs cp : Nat} {w : World} (h : Hid (RwAt w (fun _ => True) (.slice A n c) J.records)) (hl : J.records.length = n ∧ J.many = many ∧ J.synced = sync ∧ sumB J.records ≤ 4194304) (hD : Hid (DkAt w (fun _ => True) (.slice As 1 cs) (.slice Ap 0 cp) D)) (hd : D.sectors.length = 1 ∧ D.pending.length = 0 ∧ D.left = -1 ∧ D.stopped = false) (ht : syncJ J D = (J', D', er)) (h1 : J'.records.length = n') (h2 : J'.many = many') (h3 : J'.synced = sync') (hd' : D'.sectors.length = ns' ∧ D'.pending.length = np' ∧ D'.left = dl' ∧ D'.stopped = ds') :
    Calls Try.prog 21 #[.agg #[.slice A n c, .int .i64 many, .int .i64 sync], .agg #[.slice As 1 cs, .slice Ap 0 cp, .int .i64 (-1), .bool false]] w (fun e w' => ∃ (A2 : Option Addr) (c2 : Nat) (As2 : Option Addr) (cs2 : Nat) (Ap2 : Option Addr) (cp2 : Nat), e = .returned (.tuple #[.agg #[.slice A2 n' c2, .int .i64 many', .int .i64 sync'], .agg #[.slice As2 ns' cs2, .slice Ap2 np' cp2, .int .i64 dl', .bool ds'], .int .i64 er]) ∧ Hid (RwAt w' (fun _ => True) (.slice A2 n' c2) J'.records) ∧ Hid (DkAt w' (fun _ => True) (.slice As2 ns' cs2) (.slice Ap2 np' cp2) D') ∧ Below w.heap.size w w') :=
  (jSync_any J A n c many sync D As 1 cs Ap 0 cp (-1) false _ w h (Lib.hid hl.1) (Lib.hid hl.2.1) (Lib.hid hl.2.2.1) (Lib.hid hl.2.2.2) hD (Lib.hid hd.2.2.1) (Lib.hid hd.2.2.2) (Lib.hid hd.1) (Lib.hid hd.2.1)).mono (by
    rintro e w' ⟨A2, n2, c2, m, Vs, Vp, y, er', rfl, h, hl, hr, hD, hb⟩
    have e : (J', D', er) = (m, y, er') := by rw [← ht]; exact h.out
    injection e with e1 e2
    injection e2 with e2 e3
    subst e1 e2 e3
    obtain rfl : n' = n2 := h1.symm.trans hl.out
    have hD := hD.out.weak (S' := fun _ => True) fun _ _ _ => trivial
    obtain ⟨As2, cs2, rfl, _⟩ := hD.sectors.form
    obtain ⟨Ap2, cp2, rfl, _⟩ := hD.pending.form
    rw [hd'.1, hd'.2.1] at hD
    rw [h2, h3, hd'.1, hd'.2.1, hd'.2.2.1, hd'.2.2.2]
    exact ⟨A2, c2, As2, cs2, Ap2, cp2, rfl, hr.out.weak fun _ _ _ => trivial, Lib.hid hD, hb⟩)
theorem rwT_later {w w' : World} {V : Value} {l : List Bs} (h : Hid (RwAt w (fun _ => True) V l)) (hb : Below w.heap.size w w') : Hid (RwAt w' (fun _ => True) V l) := Lib.hid (h.out.keep (Keeps.of hb))
theorem dkT_later {w w' : World} {V U : Value} {d : Dk} (h : Hid (DkAt w (fun _ => True) V U d)) (hb : Below w.heap.size w w') : Hid (DkAt w' (fun _ => True) V U d) := Lib.hid (h.out.keep (Keeps.of hb))
theorem bs_two (w : World) (t : TypeId) : BsAt (w.alloc (.cells #[.int .u8 97, .int .u8 98] t (2, 3))) (fun _ => True) (.slice (some ⟨w.heap.size, 0, none⟩) 2 2) [97, 98] := by
  refine ⟨.inr ⟨_, _, _, rfl, Nat.le_refl _, by simp [maxLen]⟩, _, _, rfl, by simp [maxLen], fun i hi => ⟨_, 0, rfl, trivial, by simp, fun j hj => ?_⟩⟩
  have hi : i < 2 := by simpa using hi
  obtain rfl : j = 0 := by omega
  rw [World.cell?_alloc_mark]
  rcases i with _ | _ | i
  · rfl
  · rfl
  · omega
theorem make113 (w : World) : ∃ w', (Instr.makeSlice 35 (.int .i64 113) (.int .i64 113)).run Try.prog w = .ok (.slice (some ⟨w.heap.size, 0, none⟩) 113 113) w' ∧ BsAt w' (fun b => w.heap.size ≤ b) (.slice (some ⟨w.heap.size, 0, none⟩) 113 113) (List.replicate 113 0) ∧ Below w.heap.size w w' := by
  obtain ⟨i, E⟩ := elem_by
  obtain ⟨w', hr, ho, hg⟩ := run_makeSlice_full (P := Try.prog) w w.heap.size 35 5 i (.int .u8 0) 1 E.ht E.hi E.hz E.hsize .i64 .i64 113 (by decide) (by rw [E.hby]; decide) (by simp [maxLen]) (Nat.le_refl _)
  refine ⟨w', hr, ?_, (Below.refl _ _).grown hg (Nat.le_refl _) (fun k hk => by cases hk)⟩
  have e : byV (List.replicate 113 0) = (madeCells (Value.int .u8 0).cells (113 * 1)).toList := by rw [byV, List.map_replicate]; exact made_zeros 113
  have hl : (List.replicate 113 (0 : UInt8)).length = 113 := by rw [List.length_replicate]
  have hO : OwnBs w' w.heap.size (.slice (some ⟨w.heap.size, 0, none⟩) 113 113) (List.replicate 113 0) := by
    unfold OwnBs
    rw [e, hl]
    exact ho
  exact hO.bs (by rw [hl]; simp [maxLen])
theorem sRoom {A : Option Addr} {c : Nat} {w : World} (h : Hid (RwAt w (fun _ => True) (.slice A 0 c) saneJ0.records)) : Calls Try.prog 19 #[.agg #[.slice A 0 c, .int .i64 1, .int .i64 0]] w fun e w' => e = .returned (.int .i64 112) ∧ Below w.heap.size w w' := by
  have := jRoom_any saneJ0 A 0 c 1 0 _ w h (Lib.hid saneJ0_l.1) (Lib.hid saneJ0_l.2.1) (Lib.hid saneJ0_l.2.2.1) (Lib.hid saneJ0_l.2.2.2)
  rwa [sane_4] at this
theorem sCheck (w : World) : Calls Try.prog 17 #[.agg #[.slice none 0 0, .int .i64 0, .int .i64 0]] w fun e w' => e = .returned (.int .i64 1) ∧ Below w.heap.size w w' :=
  jCheck_any Jn.zero none 0 0 0 0 (fun _ => True) w (Lib.hid (rwAt_nil _ _)) (Lib.hid rfl) (Lib.hid rfl) (Lib.hid rfl) (Lib.hid (by decide))
theorem sane_p (t : Jn × Int) (J : Jn) (e : Int) (h1 : t.1 = J) (h2 : t.2 = e) : t = (J, e) := by subst h1 h2; rfl
theorem sane_p3 (t : Jn × Dk × Int) (J : Jn) (D : Dk) (e : Int) (h1 : t.1 = J) (h0 : t.2.1 = D) (h2 : t.2.2 = e) : t = (J, D, e) := by subst h1 h0 h2; rfl
theorem sane_5j : (appendT saneJ0 (List.replicate 113 0)).1 = Jn.zero := by rw [appendT, if_pos (by decide +kernel), if_pos (by decide +kernel)]
theorem sane_11e : syncJ saneJ1 saneD2 = (Jn.zero, Dk.zero, 50) := by rw [syncJ, if_pos (by decide +kernel), if_neg (by decide +kernel), if_neg (by decide +kernel), if_neg (by decide +kernel), if_pos (by decide +kernel)]
theorem jSane_any (w : World) : Calls Try.prog 10 #[] w fun e w' => e = .returned (.bool true) ∧ Below w.heap.size w w' := by
  have hB := Below.refl w.heap.size w
  go_enter Try.func10, Try.ntmps10
  go_wp2_with fail
  refine (sNew _).mono ?_
  rintro e w1 ⟨As1, cs1, Ap1, cp1, rfl, D1, hb⟩
  have hB := hB.trans (hb.mono hB.size)
  clear hb
  go_wp2_with fail
  have hst := ((Below.refl w1.heap.size w1).alloc (by simp <;> omega) (.cells #[.slice As1 1 cs1, .slice Ap1 0 cp1, .int .i64 (-1), .bool false] 25))
  have hBo := hB
  have D1 := dkT_later D1 hst
  have hB := hB.trans (hst.mono hB.size)
  have B1 := (Box.newAt (w := w1) (n := w1.heap.size) [.slice As1 1 cs1, .slice Ap1 0 cp1, .int .i64 (-1), .bool false] 25 (by simp))
  clear hst
  generalize (w1.alloc (.cells #[.slice As1 1 cs1, .slice Ap1 0 cp1, .int .i64 (-1), .bool false] 25)) = w2 at hB  B1 D1 ⊢
  generalize w1.heap.size = B1a at B1 ⊢
  refine (sOpen (J := saneJ0) (n := 0) (many := 1) (sync := 0) rfl rfl D1 (sane_p _ _ _ rfl sane_2) saneJ0_l.1 saneJ0_l.2.1 saneJ0_l.2.2.1).mono ?_
  rintro e w3 ⟨A3, c3, rfl, R3, hb⟩
  have B1 := B1.later hb
  have D1 := dkT_later D1 hb
  have hB := hB.trans (hb.mono hB.size)
  clear hb
  go_wp2_with fail
  have hst := ((Below.refl w3.heap.size w3).alloc (by simp <;> omega) (.cells #[.slice A3 0 c3, .int .i64 1, .int .i64 0] 29))
  have hBo := hB
  have B1o := B1
  have B1 := B1.later hst
  have D1 := dkT_later D1 hst
  have R3 := rwT_later R3 hst
  have hB := hB.trans (hst.mono hB.size)
  have B3 := (Box.newAt (w := w3) (n := w3.heap.size) [.slice A3 0 c3, .int .i64 1, .int .i64 0] 29 (by simp))
  clear hst
  generalize (w3.alloc (.cells #[.slice A3 0 c3, .int .i64 1, .int .i64 0] 29)) = w4 at hB B1 B3 D1 R3 ⊢
  generalize w3.heap.size = B3a at B3 ⊢
  go_cut [6] (fun s6 wx => s6 = .int .i64 2 ∧ Below w4.heap.size w4 wx)
  case first =>
    obtain ⟨x1, mk1, z1, m1⟩ := make113 w4.drew
    obtain ⟨x2, mk2, z2, m2⟩ := make113 (w4.alloc (.cells #[.slice none 0 0, .int .i64 0, .int .i64 0] 29)).drew
    have m1 : Below w4.heap.size w4 x1 := ((Below.refl w4.heap.size w4).drew).trans m1
    have h0 := (Below.refl w4.heap.size w4).alloc (Nat.le_refl _) (.cells #[.slice none 0 0, .int .i64 0, .int .i64 0] 29)
    have m2o := m2
    replace m2 : Below w4.heap.size w4 x2 := (h0.drew).trans (m2.mono h0.size)
    have m3 := m1.alloc m1.size (.cells #[.slice none 0 0, .int .i64 0, .int .i64 0] 29)
    have mk1 : (Instr.makeSlice 35 (.int .i64 113) (.int .i64 113)).run Try.prog w4.drew = .ok (.slice (some ⟨w4.heap.size, 0, none⟩) 113 113) x1 := mk1
    have mk2 : (Instr.makeSlice 35 (.int .i64 113) (.int .i64 113)).run Try.prog (w4.alloc (.cells #[.slice none 0 0, .int .i64 0, .int .i64 0] 29)).drew = .ok (.slice (some ⟨w4.heap.size + 1, 0, none⟩) 113 113) x2 := by
      have e : (w4.alloc (.cells #[.slice none 0 0, .int .i64 0, .int .i64 0] 29)).drew.heap.size = w4.heap.size + 1 := by show (w4.alloc (.cells #[.slice none 0 0, .int .i64 0, .int .i64 0] 29)).heap.size = _; simp
      rw [e] at mk2
      exact mk2
    have C1 : Hid (Calls Try.prog 15 #[.agg #[.slice A3 0 c3, .int .i64 1, .int .i64 0], .slice (some ⟨w4.heap.size, 0, none⟩) 113 113] x1 (RetJnB Jn.zero 0 0 0 2 x1)) := Lib.hid (sAppend (rwT_later R3 m1) (hb := z1.weak fun _ _ _ => trivial) (hl := saneJ0_l) (hnb := List.length_replicate) (hnb2 := by omega) (ht := sane_p _ _ _ sane_5j sane_5) (h1 := rfl) (h2 := rfl) (h3 := rfl))
    have C2 : Hid (Calls Try.prog 15 #[.agg #[.slice A3 0 c3, .int .i64 1, .int .i64 0], .slice (some ⟨w4.heap.size + 1, 0, none⟩) 113 113] x2 (RetJnB Jn.zero 0 0 0 2 x2)) := Lib.hid (sAppend (rwT_later R3 m2) (hb := by
      have e : (w4.alloc (.cells #[.slice none 0 0, .int .i64 0, .int .i64 0] 29)).drew.heap.size = w4.heap.size + 1 := by show (w4.alloc (.cells #[.slice none 0 0, .int .i64 0, .int .i64 0] 29)).heap.size = _; simp
      rw [e] at z2
      exact z2.weak fun _ _ _ => trivial) (hl := saneJ0_l) (hnb := List.length_replicate) (hnb2 := by omega) (ht := sane_p _ _ _ sane_5j sane_5) (h1 := rfl) (h2 := rfl) (h3 := rfl))
    have C3 : Hid (Calls Try.prog 15 #[.agg #[.slice A3 0 c3, .int .i64 1, .int .i64 0], .slice (some ⟨w4.heap.size, 0, none⟩) 113 113] (x1.alloc (.cells #[.slice none 0 0, .int .i64 0, .int .i64 0] 29)) (RetJnB Jn.zero 0 0 0 2 (x1.alloc (.cells #[.slice none 0 0, .int .i64 0, .int .i64 0] 29)))) := Lib.hid (sAppend (rwT_later R3 m3) (hb := (z1.keep (Keeps.of ((Below.refl _ _).alloc (Nat.le_refl _) _))).weak fun _ _ _ => trivial) (hl := saneJ0_l) (hnb := List.length_replicate) (hnb2 := by omega) (ht := sane_p _ _ _ sane_5j sane_5) (h1 := rfl) (h2 := rfl) (h3 := rfl))
    have X2 := ((Box.new w4 [.slice none 0 0, .int .i64 0, .int .i64 0] 29).drew).later m2o
    have X3 := Box.new x1 [.slice none 0 0, .int .i64 0, .int .i64 0] 29
    clear z1 z2 m2o
    obtain ⟨b0, b1, b2⟩ := B3.c3
    have bz := B3.lt
    have bz1 := Nat.lt_of_lt_of_le bz m1.size
    have bz2 := Nat.lt_of_lt_of_le bz m2.size
    have hS : Hid (∀ E, Below w4.heap.size w4 E → E.cell? ⟨B3a, 0, none⟩ = some (.slice A3 0 c3) ∧ E.cell? ⟨B3a, 1, none⟩ = some (.int .i64 1) ∧ E.cell? ⟨B3a, 2, none⟩ = some (.int .i64 0)) := fun E h => ⟨(h.cell (p := ⟨B3a, 0, none⟩) bz).trans b0, (h.cell (p := ⟨B3a, 1, none⟩) bz).trans b1, (h.cell (p := ⟨B3a, 2, none⟩) bz).trans b2⟩
    have m1s := m1.size
    go_region_held3 (fun w' => w'.cell? ⟨B3a, 0, none⟩ = some (.slice A3 0 c3) ∧ w'.cell? ⟨B3a, 1, none⟩ = some (.int .i64 1) ∧ w'.cell? ⟨B3a, 2, none⟩ = some (.int .i64 0)) ((refine hS.out _ ?_; repeat (first | with_reducible assumption | ((with_reducible refine Below.setCell ?_ ?_ _); rotate_left; first | exact Nat.le_refl _ | assumption | (simp; omega)) | ((with_reducible refine Below.alloc ?_ ?_ _); rotate_left; first | exact Nat.le_refl _ | assumption | (simp; omega)) | with_reducible exact Below.refl _ _ | with_reducible refine Below.drew ?_))) ((go_at_call 15; first | ((with_reducible refine C1.out.mono ?_); rintro e wz ⟨Aj, cj, rfl, _, hbz⟩; have hz := m1.trans (hbz.mono m1.size); have hzs := hz.size) | ((with_reducible refine C2.out.mono ?_); rintro e wz ⟨Aj, cj, rfl, _, hbz⟩; have hz := m2.trans (hbz.mono m2.size); have hzs := hz.size; have U := X2.later hbz; have U0 : wz.cell? ⟨w4.heap.size, 0, none⟩ = some (.slice none 0 0) := U.cell 0; have U1 : wz.cell? ⟨w4.heap.size, 1, none⟩ = some (.int .i64 0) := U.cell 1; have U2 : wz.cell? ⟨w4.heap.size, 2, none⟩ = some (.int .i64 0) := U.cell 2; have Uf0 := U.free 0; have Uf1 := U.free 1; have Uf2 := U.free 2; have Uz := U.lt) | ((with_reducible refine C3.out.mono ?_); rintro e wz ⟨Aj, cj, rfl, _, hbz⟩; have hz := m3.trans (hbz.mono m3.size); have hzs := hz.size; have U := X3.later hbz; have U0 : wz.cell? ⟨x1.heap.size, 0, none⟩ = some (.slice none 0 0) := U.cell 0; have U1 : wz.cell? ⟨x1.heap.size, 1, none⟩ = some (.int .i64 0) := U.cell 1; have U2 : wz.cell? ⟨x1.heap.size, 2, none⟩ = some (.int .i64 0) := U.cell 2; have Uf0 := U.free 0; have Uf1 := U.free 1; have Uf2 := U.free 2; have Uz := U.lt)))
    all_goals (go_wp2_with fail; go_meet)
    all_goals (refine ⟨rfl, ?_⟩; repeat (first | with_reducible assumption | ((with_reducible refine Below.setCell ?_ ?_ _); rotate_left; first | exact Nat.le_refl _ | assumption | (simp; omega)) | ((with_reducible refine Below.alloc ?_ ?_ _); rotate_left; first | exact Nat.le_refl _ | assumption | (simp; omega)) | with_reducible exact Below.refl _ _ | with_reducible refine Below.drew ?_))
  case rest =>
    obtain ⟨rfl, hb⟩ := hcut
    have B1 := B1.later hb
    have B3 := B3.later hb
    have D1 := dkT_later D1 hb
    have R3 := rwT_later R3 hb
    have hB := hB.trans (hb.mono hB.size)
    clear hb
    have kc := fun (w : World) (C : Array Value) (n c : Nat) => Lib.run_convert_bytes_const (P := Try.prog) w 35 5 C n c Try.underlying35 Try.underlying5
    obtain ⟨B3c0, B3c1, B3c2⟩ := B3.c3
    have B3z : B3a < wc.heap.size := B3.lt
    go_wp2_with fail
    clear B3c0 B3c1 B3c2 B3z
    clear kc
    have h7 := bs_two wc 5
    have hb := (Below.refl wc.heap.size wc).alloc (Nat.le_refl _) (.cells #[.int .u8 97, .int .u8 98] 5 (2, 3))
    have B1 := B1.later hb
    have B3 := B3.later hb
    have D1 := dkT_later D1 hb
    have R3 := rwT_later R3 hb
    have hB := hB.trans (hb.mono hB.size)
    clear hb
    generalize wc.alloc (.cells #[.int .u8 97, .int .u8 98] 5 (2, 3)) = w44 at hB h7 B1 B3 D1 R3 ⊢
    generalize wc.heap.size = a7 at h7 ⊢
    refine (sAppend (J' := saneJ1) (n' := 1) (many' := 1) (sync' := 0) R3 saneJ0_l h7 (by rfl) (by omega) (sane_p _ _ _ rfl sane_6) saneJ1_l.1 saneJ1_l.2.1 saneJ1_l.2.2.1).mono ?_
    rintro e w5 ⟨A7, c7, rfl, R7, hb⟩
    clear h7
    have B1 := B1.later hb
    have B3 := B3.later hb
    have D1 := dkT_later D1 hb
    have R3 := rwT_later R3 hb
    have hB := hB.trans (hb.mono hB.size)
    clear hb
    obtain ⟨B1c0, B1c1, B1c2, B1c3⟩ := B1.c4
    have B1z : B1a < w5.heap.size := B1.lt
    go_wp2_with fail
    clear B1c0 B1c1 B1c2 B1c3 B1z
    have hst := ((Below.refl w5.heap.size w5).alloc (by simp <;> omega) (.cells #[.slice A7 1 c7, .int .i64 1, .int .i64 0] 29))
    have hBo := hB
    have B1o := B1
    have B1 := B1.later hst
    have B3o := B3
    have B3 := B3.later hst
    have D1 := dkT_later D1 hst
    have R3 := rwT_later R3 hst
    have R7 := rwT_later R7 hst
    have hB := hB.trans (hst.mono hB.size)
    have B7 := (Box.newAt (w := w5) (n := w5.heap.size) [.slice A7 1 c7, .int .i64 1, .int .i64 0] 29 (by simp))
    clear hst
    generalize (w5.alloc (.cells #[.slice A7 1 c7, .int .i64 1, .int .i64 0] 29)) = w6 at hB B1 B3 B7 D1 R3 R7 ⊢
    generalize w5.heap.size = B7a at B7 ⊢
    refine (sSync (J' := saneJ2) (D' := saneD2) (n' := 1) (ns' := 1) (np' := 0) (dl' := -1) (ds' := false) (many' := 1) (sync' := 1) R7 saneJ1_l D1 saneD1_l (sane_p3 _ _ _ _ rfl rfl sane_7) saneJ2_l.1 saneJ2_l.2.1 saneJ2_l.2.2.1 saneD2_l).mono ?_
    rintro e w7 ⟨A9, c9, As10, cs10, Ap10, cp10, rfl, R9, D10, hb⟩
    have B1 := B1.later hb
    have B3 := B3.later hb
    have B7 := B7.later hb
    have D1 := dkT_later D1 hb
    have R3 := rwT_later R3 hb
    have R7 := rwT_later R7 hb
    have hB := hB.trans (hb.mono hB.size)
    clear hb
    go_wp2_with fail
    have hst := (((Below.refl w7.heap.size w7).alloc (by simp <;> omega) (.cells #[.slice A9 1 c9, .int .i64 1, .int .i64 1] 29)).alloc (by simp <;> omega) (.cells #[.slice As10 1 cs10, .slice Ap10 0 cp10, .int .i64 (-1), .bool false] 25))
    have hBo := hB
    have B1o := B1
    have B1 := B1.later hst
    have B3o := B3
    have B3 := B3.later hst
    have B7o := B7
    have B7 := B7.later hst
    have D1 := dkT_later D1 hst
    have R3 := rwT_later R3 hst
    have R7 := rwT_later R7 hst
    have R9 := rwT_later R9 hst
    have D10 := dkT_later D10 hst
    have hB := hB.trans (hst.mono hB.size)
    have B9 := ((Box.newAt (w := w7) (n := w7.heap.size) [.slice A9 1 c9, .int .i64 1, .int .i64 1] 29 (by simp)).alloc (.cells #[.slice As10 1 cs10, .slice Ap10 0 cp10, .int .i64 (-1), .bool false] 25))
    have B10 := (Box.newAt (w := (w7.alloc (.cells #[.slice A9 1 c9, .int .i64 1, .int .i64 1] 29))) (n := w7.heap.size + 1) [.slice As10 1 cs10, .slice Ap10 0 cp10, .int .i64 (-1), .bool false] 25 (by simp))
    clear hst
    generalize ((w7.alloc (.cells #[.slice A9 1 c9, .int .i64 1, .int .i64 1] 29)).alloc (.cells #[.slice As10 1 cs10, .slice Ap10 0 cp10, .int .i64 (-1), .bool false] 25)) = w8 at hB B1 B3 B7 B9 B10 D1 R3 R7 R9 D10 ⊢
    generalize w7.heap.size + 1 = B10a at B9 B10 ⊢
    generalize w7.heap.size = B9a at B9 B10 ⊢
    refine (sOpen (J := saneJ3) (n := 1) (many := 1) (sync := 1) rfl rfl D10 (sane_p _ _ _ rfl sane_9) saneJ3_l.1 saneJ3_l.2.1 saneJ3_l.2.2.1).mono ?_
    rintro e w9 ⟨A12, c12, rfl, R12, hb⟩
    obtain ⟨g12, o12, V13, hA12, _⟩ := R12.out.row (k := 0) (by rw [saneJ3_l.1]; decide)
    subst hA12
    have B1 := B1.later hb
    have B3 := B3.later hb
    have B7 := B7.later hb
    have B9 := B9.later hb
    have B10 := B10.later hb
    have D1 := dkT_later D1 hb
    have R3 := rwT_later R3 hb
    have R7 := rwT_later R7 hb
    have R9 := rwT_later R9 hb
    have D10 := dkT_later D10 hb
    have hB := hB.trans (hb.mono hB.size)
    clear hb
    obtain ⟨B7c0, B7c1, B7c2⟩ := B7.c3
    have B7z : B7a < w9.heap.size := B7.lt
    obtain ⟨B10c0, B10c1, B10c2, B10c3⟩ := B10.c4
    have B10z : B10a < w9.heap.size := B10.lt
    go_wp2_with fail
    clear B7c0 B7c1 B7c2 B7z B10c0 B10c1 B10c2 B10c3 B10z
    have hst := ((Below.refl w9.heap.size w9).alloc (by simp <;> omega) (.cells #[.slice (some ⟨g12, o12, none⟩) 1 c12, .int .i64 1, .int .i64 1] 29))
    have hBo := hB
    have B1o := B1
    have B1 := B1.later hst
    have B3o := B3
    have B3 := B3.later hst
    have B7o := B7
    have B7 := B7.later hst
    have B9o := B9
    have B9 := B9.later hst
    have B10o := B10
    have B10 := B10.later hst
    have D1 := dkT_later D1 hst
    have R3 := rwT_later R3 hst
    have R7 := rwT_later R7 hst
    have R9 := rwT_later R9 hst
    have D10 := dkT_later D10 hst
    have R12 := rwT_later R12 hst
    have hB := hB.trans (hst.mono hB.size)
    have B12 := (Box.newAt (w := w9) (n := w9.heap.size) [.slice (some ⟨g12, o12, none⟩) 1 c12, .int .i64 1, .int .i64 1] 29 (by simp))
    clear hst
    generalize (w9.alloc (.cells #[.slice (some ⟨g12, o12, none⟩) 1 c12, .int .i64 1, .int .i64 1] 29)) = w10 at hB B1 B3 B7 B9 B10 B12 D1 R3 R7 R9 D10 R12 ⊢
    generalize w9.heap.size = B12a at B12 ⊢
    refine (sSync (J' := Jn.zero) (D' := Dk.zero) (n' := 0) (ns' := 0) (np' := 0) (dl' := 0) (ds' := false) (many' := 0) (sync' := 0) R7 saneJ1_l D10 saneD2_l sane_11e rfl rfl rfl ⟨rfl, rfl, rfl, rfl⟩).mono ?_
    rintro e w11 ⟨A14, c14, As15, cs15, Ap15, cp15, rfl, R14, D15, hb⟩
    have B1 := B1.later hb
    have B3 := B3.later hb
    have B7 := B7.later hb
    have B9 := B9.later hb
    have B10 := B10.later hb
    have B12 := B12.later hb
    have D1 := dkT_later D1 hb
    have R3 := rwT_later R3 hb
    have R7 := rwT_later R7 hb
    have R9 := rwT_later R9 hb
    have D10 := dkT_later D10 hb
    have R12 := rwT_later R12 hb
    have hB := hB.trans (hb.mono hB.size)
    clear hb
    obtain ⟨B3c0, B3c1, B3c2⟩ := B3.c3
    have B3z : B3a < w11.heap.size := B3.lt
    have B3z1 : B3a < w11.heap.size + 1 := by omega
    go_wp2_with fail
    clear B3c0 B3c1 B3c2 B3z B3z1
    have hst := (((Below.refl w11.heap.size w11).alloc (by simp <;> omega) (.cells #[.slice A14 0 c14, .int .i64 0, .int .i64 0] 29)).alloc (by simp <;> omega) (.cells #[.slice As15 0 cs15, .slice Ap15 0 cp15, .int .i64 0, .bool false] 25))
    have hBo := hB
    have B1o := B1
    have B1 := B1.later hst
    have B3o := B3
    have B3 := B3.later hst
    have B7o := B7
    have B7 := B7.later hst
    have B9o := B9
    have B9 := B9.later hst
    have B10o := B10
    have B10 := B10.later hst
    have B12o := B12
    have B12 := B12.later hst
    have D1 := dkT_later D1 hst
    have R3 := rwT_later R3 hst
    have R7 := rwT_later R7 hst
    have R9 := rwT_later R9 hst
    have D10 := dkT_later D10 hst
    have R12 := rwT_later R12 hst
    have hB := hB.trans (hst.mono hB.size)
    have B14 := ((Box.newAt (w := w11) (n := w11.heap.size) [.slice A14 0 c14, .int .i64 0, .int .i64 0] 29 (by simp)).alloc (.cells #[.slice As15 0 cs15, .slice Ap15 0 cp15, .int .i64 0, .bool false] 25))
    have B15 := (Box.newAt (w := (w11.alloc (.cells #[.slice A14 0 c14, .int .i64 0, .int .i64 0] 29))) (n := w11.heap.size + 1) [.slice As15 0 cs15, .slice Ap15 0 cp15, .int .i64 0, .bool false] 25 (by simp))
    clear hst
    generalize ((w11.alloc (.cells #[.slice A14 0 c14, .int .i64 0, .int .i64 0] 29)).alloc (.cells #[.slice As15 0 cs15, .slice Ap15 0 cp15, .int .i64 0, .bool false] 25)) = w12 at hB B1 B3 B7 B9 B10 B12 B14 B15 D1 R3 R7 R9 D10 R12 ⊢
    generalize w11.heap.size + 1 = B15a at B14 B15 ⊢
    generalize w11.heap.size = B14a at B14 B15 ⊢
    refine (sRoom R3).mono ?_
    rintro e w13 ⟨rfl, hb⟩
    have B1 := B1.later hb
    have B3 := B3.later hb
    have B7 := B7.later hb
    have B9 := B9.later hb
    have B10 := B10.later hb
    have B12 := B12.later hb
    have B14 := B14.later hb
    have B15 := B15.later hb
    have D1 := dkT_later D1 hb
    have R3 := rwT_later R3 hb
    have R7 := rwT_later R7 hb
    have R9 := rwT_later R9 hb
    have D10 := dkT_later D10 hb
    have R12 := rwT_later R12 hb
    have hB := hB.trans (hb.mono hB.size)
    clear hb
    obtain ⟨B9c0, B9c1, B9c2⟩ := B9.c3
    have B9z : B9a < w13.heap.size := B9.lt
    obtain ⟨B12c0, B12c1, B12c2⟩ := B12.c3
    have B12z : B12a < w13.heap.size := B12.lt
    rw [sane_10] at R12
    obtain ⟨g12', o12', V12, hA12, _, hz12, hc12, hb12⟩ := R12.out.row (k := 0) (by decide)
    cases hA12
    obtain ⟨Ab, cb, hV12, _⟩ := hb12.form
    subst hV12
    have cv := hb12.str
    rw [Nat.add_zero] at hc12
    have hc12 : w13.cell? ⟨g12, o12, none⟩ = some (.slice Ab 2 cb) := hc12
    have cv : (convert 35 9 (.slice Ab 2 cb)).run Try.prog w13 = .ok (.string ⟨#[97, 98]⟩) w13 := cv
    clear hb12
    go_wp2_with fail
    refine (sCheck _).mono ?_
    rintro e w14 ⟨rfl, hb⟩
    have B1 := B1.later hb
    have B3 := B3.later hb
    have B7 := B7.later hb
    have B9 := B9.later hb
    have B10 := B10.later hb
    have B12 := B12.later hb
    have B14 := B14.later hb
    have B15 := B15.later hb
    have D1 := dkT_later D1 hb
    have R3 := rwT_later R3 hb
    have R7 := rwT_later R7 hb
    have R9 := rwT_later R9 hb
    have D10 := dkT_later D10 hb
    have R12 := rwT_later R12 hb
    have hB := hB.trans (hb.mono hB.size)
    clear hb
    go_wp2
    go_ret
    exact ⟨rfl, hB⟩
end Go.Proofs.Ythlidhfahaalgaa
namespace Go.Proofs.Ythlidhfahaalgaa
open Go.RowKit
structure JnIs (J : Jn) (n : Nat) (many sync : Int) : Prop where
  len : J.records.length = n
  many : J.many = many
  sync : J.synced = sync
section
variable {w w' : World} {L : List Nat} {V Vs Vp : Value} {J : Jn} {l : List Bs} {d : Dk} {A : Option Addr} {n c : Nat} {many sync : Int}
theorem rw_later (h : Hid (RwAt w (Out L) V l)) (hb : Below w.heap.size w w') : Hid (RwAt w' (Out L) V l) := Lib.hid (h.out.keep (Keeps.of hb))
theorem rw_set {a : Nat} (ha : a ∈ L) (h : Hid (RwAt w (Out L) V l)) (o : Nat) (u : Value) : Hid (RwAt (w.setCell ⟨a, o, none⟩ u) (Out L) V l) := Lib.hid (h.out.keep (Keeps.set w (a := ⟨a, o, none⟩) (fun hc => hc ha) u))
theorem rw_more {a : Nat} (ha : w.heap.size ≤ a) (h : Hid (RwAt w (Out L) V l)) : Hid (RwAt w (Out (a :: L)) V l) := Lib.hid (h.out.weak fun b hb hl hc => by
  rcases List.mem_cons.1 hc with rfl | hc
  · omega
  · exact hb hc)
theorem live_rw (h : RwAt w (fun b => b < w.heap.size) V l) : Hid (RwAt w (Out []) V l) := Lib.hid (h.weak fun b _ _ hc => by cases hc)
theorem RetJn.is {t : Jn × Int} {e : Ending} {er : Int} (hh : RetJn t (Out L) w e w') (hL : InW L w) (ht : Hid (t = (J, er))) (hj : Hid (JnIs J n many sync)) :
    ∃ (A : Option Addr) (c : Nat), e = .returned (.tuple #[.agg #[.slice A n c, .int .i64 many, .int .i64 sync], .int .i64 er]) ∧ Hid (RwAt w' (Out L) (.slice A n c) J.records) ∧ Below w.heap.size w w' := by
  obtain ⟨A, n', c, m, er', he, ht', hl, hr, hb⟩ := hh
  obtain ⟨rfl, rfl⟩ := Prod.mk.inj (ht'.out.symm.trans ht.out)
  obtain rfl : n = n' := hj.out.len.symm.trans hl.out
  rw [hj.out.many, hj.out.sync] at he
  exact ⟨A, c, he, Lib.hid (hr.out.weak fun b hb _ => Out.grow hL hb), hb⟩
theorem RetJD.is {t : Jn × Dk × Int} {e : Ending} {er : Int} {m : Dk} {ns np : Nat} {dl : Int} {ds : Bool} (hh : RetJD t (Out L) w e w') (hL : InW L w) (ht : Hid (t = (J, m, er))) (hj : Hid (JnIs J n many sync)) (h1 : Hid (m.sectors.length = ns)) (h2 : Hid (m.pending.length = np)) (h3 : Hid (m.left = dl)) (h4 : Hid (m.stopped = ds)) :
    ∃ (A : Option Addr) (c : Nat) (As : Option Addr) (cs : Nat) (Ap : Option Addr) (cp : Nat), e = .returned (.tuple #[.agg #[.slice A n c, .int .i64 many, .int .i64 sync], .agg #[.slice As ns cs, .slice Ap np cp, .int .i64 dl, .bool ds], .int .i64 er]) ∧ Hid (RwAt w' (Out L) (.slice A n c) J.records) ∧ Hid (DkAt w' (Out L) (.slice As ns cs) (.slice Ap np cp) m) ∧ Below w.heap.size w w' := by
  obtain ⟨A, n', c, m', Us, Up, y, er', he, ht', hl, hr, hD, hb⟩ := hh
  have h5 : (m', y, er') = (J, m, er) := ht'.out.symm.trans ht.out
  injection h5 with h5 h6
  injection h6 with h6 h7
  subst h5 h6 h7
  obtain rfl : n = n' := hj.out.len.symm.trans hl.out
  obtain ⟨As, cs, rfl, _⟩ := hD.out.sectors.form
  obtain ⟨Ap, cp, rfl, _⟩ := hD.out.pending.form
  rw [h1.out, h2.out] at hD
  rw [hj.out.many, hj.out.sync, h1.out, h2.out, h3.out, h4.out] at he
  exact ⟨A, c, As, cs, Ap, cp, he, Lib.hid (hr.out.weak fun b hb _ => Out.grow hL hb), Lib.hid (hD.out.weak fun b hb _ => Out.grow hL hb), hb⟩
section
variable {dl : Int} {ds : Bool} (hD : Hid (DkAt w (Out L) Vs Vp d)) (hd : Hid (DkIs d dl ds))
include hD hd
theorem jOpen_at : Calls Try.prog 12 #[.agg #[Vs, Vp, .int .i64 dl, .bool ds]] w (RetJn (openT d) (Out L) w) := by
  have := jOpen_any d Vs Vp (Out L) w hD.out
  rwa [Dk.v, hd.out.left, hd.out.stopped] at this
end
theorem jSame_at {B : Option Addr} {m d : Nat} {J' : Jn} {bm bs : Int} {r : Bool} (ha : Hid (RwAt w (Out L) (.slice A n c) J.records)) (hj : Hid (JnIs J n many sync)) (hb : Hid (RwAt w (Out L) (.slice B m d) J'.records)) (hj' : Hid (JnIs J' m bm bs)) (hr : Hid (sameJ J J' = r)) :
    Calls Try.prog 14 #[.agg #[.slice A n c, .int .i64 many, .int .i64 sync], .agg #[.slice B m d, .int .i64 bm, .int .i64 bs]] w fun e w' => e = .returned (.bool r) ∧ Below w.heap.size w w' :=
  jRSame_any J J' A B n c m d (Out L) (Out L) w ha hb (Lib.hid hj.out.len) (Lib.hid hj'.out.len) many sync bm bs (Lib.hid hj.out.many) (Lib.hid hj.out.sync) (Lib.hid hj'.out.many) (Lib.hid hj'.out.sync) r hr
section
variable (hR : Hid (RwAt w (Out L) (.slice A n c) J.records)) (hj : Hid (JnIs J n many sync)) (hs : Hid (sumB J.records ≤ 4194304))
include hR hj hs
theorem jAppend_at {b : Bs} {Ab : Option Addr} {nb cb : Nat} (hb : Hid (BsAt w (Out L) (.slice Ab nb cb) b)) (hnb : Hid (b.length = nb)) (hnb2 : nb ≤ 9223372036854775000) : Calls Try.prog 15 #[.agg #[.slice A n c, .int .i64 many, .int .i64 sync], .slice Ab nb cb] w (RetJn (appendT J b) (Out L) w) :=
  jAppend_any J A n c many sync b Ab nb cb (Out L) w hR (Lib.hid hj.out.len) (Lib.hid hj.out.many) (Lib.hid hj.out.sync) hs hb hnb hnb2
variable {dl : Int} {ds : Bool} {As Ap : Option Addr} {ns cs np cp : Nat} (hD : Hid (DkAt w (Out L) (.slice As ns cs) (.slice Ap np cp) d)) (hd : Hid (DkIs d dl ds)) (hns : Hid (d.sectors.length = ns)) (hnp : Hid (d.pending.length = np))
include hD hd hns hnp
theorem jSync_at : Calls Try.prog 21 #[.agg #[.slice A n c, .int .i64 many, .int .i64 sync], .agg #[.slice As ns cs, .slice Ap np cp, .int .i64 dl, .bool ds]] w (RetJD (syncJ J d) (Out L) w) :=
  jSync_any J A n c many sync d As ns cs Ap np cp dl ds (Out L) w hR (Lib.hid hj.out.len) (Lib.hid hj.out.many) (Lib.hid hj.out.sync) hs hD (Lib.hid hd.out.left) (Lib.hid hd.out.stopped) hns hnp
end
end
theorem sameJ_refl (a : Jn) : sameJ a a = true := by simp [sameJ]
theorem jFew_at {w : World} {L : List Nat} {As : Option Addr} {ns cs : Nat} {Ap : Option Addr} {np cp : Nat} {dl : Int} {ds : Bool} {l : List Bs} {A : Option Addr} {n c : Nat} (hR : Hid (RwAt w (Out L) (.slice A n c) l)) (hn : Hid (l.length = n)) :
    Calls Try.prog 11 #[.agg #[.slice As ns cs, .slice Ap np cp, .int .i64 dl, .bool ds], .slice A n c] w (RetFew ns np l w) := by
  have : n ≤ 9223372036854775807 := by
    obtain ⟨_, _, e, h⟩ := hR.out.form
    cases e
    simp only [maxLen] at h
    omega
  exact jFew_any As ns cs Ap np cp dl ds l A n c (Out L) w hR hn this
end Go.Proofs.Ythlidhfahaalgaa
namespace Go.Proofs.Ythlidhfahaalgaa
open Go.ChangeShapes Go.WideShapes Go.ChangeAt Go.RowKit Go.Joins Go.Deep
structure Cr where
  records : List Bs
  stop : Bool
  left : UInt8
def Cr.zero : Cr := ⟨[], false, 0⟩
def crCells (l : List Cr) (V : Nat → Value) (i j : Nat) : Value := if j = 0 then V i else if j = 1 then .bool (l.getD i Cr.zero).stop else .int .u8 (((l.getD i Cr.zero).left).toNat : Int)
def CrAt (w : World) (S : Nat → Prop) (v : Value) (l : List Cr) : Prop := SlF v ∧ ∃ V : Nat → Value, SlP w S 3 l.length (crCells l V) v ∧ ∀ (i : Nat) (x : Cr), l[i]? = some x → RwAt w S (V i) x.records
theorem CrAt.keep {w w' : World} {S : Nat → Prop} {v : Value} {l : List Cr} (h : CrAt w S v l) (hk : Keeps S w w') : CrAt w' S v l := by
  obtain ⟨h0, V, h1, h2⟩ := h
  exact ⟨h0, V, h1.keep hk, fun i x hx => (h2 i x hx).keep hk⟩
theorem CrAt.weak {w : World} {S S' : Nat → Prop} {v : Value} {l : List Cr} (h : CrAt w S v l) (hk : ∀ b, S b → b < w.heap.size → S' b) : CrAt w S' v l := by
  obtain ⟨h0, V, h1, h2⟩ := h
  exact ⟨h0, V, h1.weak hk, fun i x hx => (h2 i x hx).weak hk⟩
theorem CrAt.form {w : World} {S : Nat → Prop} {v : Value} {l : List Cr} (h : CrAt w S v l) : ∃ A c, v = .slice A l.length c ∧ l.length ≤ maxLen := by
  obtain ⟨_, V, h1, _⟩ := h
  exact h1.form
theorem CrAt.cell {w : World} {S : Nat → Prop} {A : Option Addr} {n c : Nat} {l : List Cr} (h : CrAt w S (.slice A n c) l) {k : Nat} (hk : k < l.length) :
    ∃ b off Ar cr, A = some ⟨b, off, none⟩ ∧ S b ∧ b < w.heap.size ∧ w.cell? ⟨b, off + k * 3, none⟩ = some (.slice Ar (l[k]).records.length cr) ∧ w.cell? ⟨b, off + k * 3 + 1, none⟩ = some (.bool (l[k]).stop) ∧ w.cell? ⟨b, off + k * 3 + 2, none⟩ = some (.int .u8 ((l[k]).left.toNat : Int)) ∧ RwAt w S (.slice Ar (l[k]).records.length cr) (l[k]).records := by
  obtain ⟨_, V, ⟨A', c', hv, _, h1⟩, h2⟩ := h
  cases hv
  obtain ⟨b, off, rfl, hS, hb, h3⟩ := h1 k hk
  have e : l.getD k Cr.zero = l[k] := by rw [List.getD_eq_getElem?_getD, List.getElem?_eq_getElem hk]; rfl
  have hr := h2 k _ (List.getElem?_eq_getElem hk)
  obtain ⟨Ar, cr, hV, _⟩ := hr.form
  have c0 := h3 0 (by omega)
  have c1 := h3 1 (by omega)
  have c2 := h3 2 (by omega)
  unfold crCells at c0 c1 c2
  rw [e] at c1 c2
  rw [hV] at hr
  exact ⟨b, off, Ar, cr, rfl, hS, hb, by simpa [hV] using c0, by simpa [Nat.add_assoc] using c1, by simpa [Nat.add_assoc] using c2, hr⟩
section
variable {H : Type} {enc : TypeId × Value → H} {w : World} {base : Nat} {spare : Nat → Bool} {held : Bool}
end
/-! Records appended. -/
structure Jnd (J : Jn) (R N : List Bs) (n : Nat) : Prop where
  ok : J.okB = true
  is : J = ⟨R ++ N, n, R.length⟩
theorem sumB_used (l : List Bs) : sumB l ≤ 113 * usedT l := by
  induction l with
  | nil => simp [sumB]
  | cons b l ih =>
    rw [usedT_cons]
    simp only [sumB, List.foldr_cons] at ih ⊢
    have : b.length ≤ 112 * secT b.length := by unfold secT; omega
    have := secT_pos b.length
    omega
theorem ok_sum {J : Jn} (h : J.okB = true) : sumB J.records ≤ 4194304 := by
  obtain ⟨g1, g2, g3, g4, g5⟩ := J.okB_iff.1 h
  have := sumB_used J.records
  omega
theorem Jnd.more {J : Jn} {R N : List Bs} {n : Nat} {b : Bs} (h : Jnd J R N n) (he : (appendT J b).2 = 0) : Jnd (appendT J b).1 R (N ++ [b]) n := by
  obtain ⟨ok, rfl⟩ := h
  rw [appendT, if_pos ok] at he ⊢
  obtain ⟨g1, g2, g3, g4, g5⟩ := (Jn.okB_iff _).1 ok
  by_cases hc : ((⟨R ++ N, n, R.length⟩ : Jn).many - (usedT (⟨R ++ N, n, R.length⟩ : Jn).records : Int) < (secT b.length : Int))
  · rw [if_pos hc] at he; cases he
  · rw [if_neg hc]
    dsimp only at hc g1 g2 g3 g4 g5
    refine ⟨(Jn.okB_iff _).2 ⟨g1, g2, g3, ?_, ?_⟩, by simp⟩
    · simp only [List.length_append, List.length_cons] at g4 ⊢; omega
    · simp only [usedT_append] at g5 hc ⊢
      have : usedT [b] = secT b.length := by rw [usedT_cons]; rfl
      omega
theorem Jnd.jn {J : Jn} {R N : List Bs} {n : Nat} (h : Jnd J R N n) : JnIs J (R.length + N.length) n R.length := by
  obtain ⟨_, rfl⟩ := h
  exact ⟨by simp, rfl, rfl⟩
end Go.Proofs.Ythlidhfahaalgaa
namespace Go.Proofs.Ythlidhfahaalgaa
open Go.ChangeShapes Go.WideShapes Go.ChangeAt Go.RowKit Go.Joins Go.Deep
theorem recsW_good {g : Nat} (hg : 0 < g) (hg2 : g < 4294967296) : ∀ {N : List Bs} {a j : Nat} {x : Wr}, a + usedT N ≤ 65536 → (recsW g a N)[j]? = some x → goodT x.data (a + j) = true := by
  intro N
  induction N with
  | nil => intro a j x _ h; cases h
  | cons b N ih =>
    intro a j x ha h
    rw [usedT_cons] at ha
    rw [recsW, List.getElem?_append, recW_length] at h
    split at h
    · rename_i hj
      rw [recW_get hj] at h
      cases h
      exact goodT_pieceE hg hg2 (by omega) hj
    · have := ih (a := a + secT b.length) (by omega) h
      rwa [show a + secT b.length + (j - secT b.length) = a + j by omega] at this
abbrev S40 : List Bs := List.replicate 40 zeros
theorem new40 : GoodS S40 40 [] 0 := new_good (by decide) (by decide)
theorem gen40 : genM S40 = 0 := Nat.le_zero.1 new40.gen
theorem Jnd.used {J : Jn} {N : List Bs} {n : Nat} (h : Jnd J [] N n) : usedT N ≤ n := by
  obtain ⟨ok, rfl⟩ := h
  obtain ⟨_, _, _, _, g5⟩ := (Jn.okB_iff _).1 ok
  have g5 : (usedT ([] ++ N) : Int) ≤ (n : Int) := g5
  rw [List.nil_append] at g5
  omega
theorem damaged {N S' : List Bs} {k i : Nat} {c : UInt8} (hS : S' = perf S40 (recsW 1 0 N)) (hG : GoodS S' 40 N 1) (hu : usedT N ≤ 40) (hk : k < usedT N) {s : Bs} (hs : S'[k]? = some s) (hi : i < 128) (hl : s.length = 128) (hc : c ≠ s[i]) :
    ∃ m, m < N.length ∧ usedT (N.take m) ≤ k ∧ k < usedT (N.take (m + 1)) ∧ GoodS (S'.set k (s.set i c)) 40 (N.take m) (genM (S'.set k (s.set i c))) := by
  have hlen := recsW_length 1 0 N
  have h40 : S40.length = 40 := by simp
  obtain ⟨x, hx⟩ : ∃ x, (recsW 1 0 N)[k]? = some x := ⟨_, List.getElem?_eq_getElem (by rw [hlen]; exact hk)⟩
  have hw : Wrote S' 1 0 N (usedT N) := by
    have := wrote_perf (S := S40) (g := 1) (a := 0) (k := usedT N) (N := N) (by rw [h40]; omega)
    rwa [List.take_of_length_le (by rw [hlen]; exact Nat.le_refl _), ← hS] at this
  have hxs := hw k x hk hx
  rw [Nat.zero_add, hs] at hxs
  obtain rfl : s = x.data := Option.some.inj hxs
  have hgood := recsW_good (g := 1) (by decide) (by decide) (a := 0) (by omega) hx
  rw [Nat.zero_add] at hgood
  have hbad := damage_bad (c := c) hl hi hc hgood
  have hkS : k < S'.length := by rw [hG.len]; omega
  obtain ⟨m, h1, h2, h3, h4⟩ := records_torn (S := S40) (S' := S'.set k (x.data.set i c)) (R := []) (N := N) (g := 1) (k := k) (t := x.data.set i c) new40.rows new40.recs (by decide) (by decide) (fun s hs => by have := (genM_mem hs).1; rw [gen40] at this; omega) (by simp [usedT] at hu ⊢; omega) (fun i hi => by simp [usedT] at hi)
    (fun j y hj hy => by
      show (S'.set k _)[0 + j]? = _
      rw [List.getElem?_set_ne (by omega)]
      exact hw j y (by omega) hy) hk (by show (S'.set k _)[0 + k]? = _; rw [Nat.zero_add, List.getElem?_set_self hkS]) (by show goodT _ (0 + k) = false; rw [Nat.zero_add]; exact hbad)
  refine ⟨m, h1, h2, h3, hG.pos, hG.le, by rw [List.length_set, hG.len], fun s hs => ?_, by rw [h4, List.nil_append], Nat.le_refl _⟩
  rcases List.mem_or_eq_of_mem_set hs with hs | rfl
  · exact hG.rows s hs
  · rw [List.length_set, hl]
def isV (l : List Int) : List Value := l.map fun x => .int .i64 x
def OwnIs (w : World) (base : Nat) (V : Value) (l : List Int) : Prop := w.ownsRow base 3 1 V l.length (isV l)
theorem OwnIs.later {w w' : World} {base : Nat} {v : Value} {l : List Int} (h : OwnIs w base v l) (hb : Below w.heap.size w w') : OwnIs w' base v l := World.ownsRow.kept h (grownN hb) (by rcases v.ownBlock with _ | _ <;> simp)
section
variable {w w' : World} {g g' B : Nat} {M : List Nat} {o : Option Nat}
end
theorem OwnIs.cell {w : World} {base n c : Nat} {A : Option Addr} {l : List Int} (h : OwnIs w base (.slice A n c) l) {i : Nat} (hi : i < n) : n = l.length ∧ ∃ g, A = some ⟨g, 0, none⟩ ∧ base ≤ g ∧ g < w.heap.size ∧ w.cell? ⟨g, i, none⟩ = some (.int .i64 (l.getD i 0)) := by
  have h0 := h.2
  rcases h0 with ⟨e, _⟩ | ⟨g, cap, cur, e, _⟩
  · injection e with _ e; omega
  · injection e with e1 e2 e3
    subst e1 e2 e3
    obtain ⟨c1, c2, c3, _⟩ := own_cell h
    refine ⟨rfl, g, rfl, c1, c2, ?_⟩
    rw [c3 i hi, isV, List.getElem?_map, List.getD_eq_getElem?_getD, List.getElem?_eq_getElem hi]
    rfl
theorem OwnIs.form {w : World} {base : Nat} {V : Value} {l : List Int} (h : OwnIs w base V l) : ∃ A c, V = .slice A l.length c ∧ (A = none ∨ ∃ g, A = some ⟨g, 0, none⟩) := by
  rcases h.2 with ⟨e, h0⟩ | ⟨g, cap, cur, e, _⟩
  · rw [h0]; exact ⟨none, 0, e, .inl rfl⟩
  · exact ⟨_, cap, e, .inr ⟨g, rfl⟩⟩
section
variable {H : Type} {enc : TypeId × Value → H} {w : World} {base : Nat} {spare : Nat → Bool} {held : Bool}
end
end Go.Proofs.Ythlidhfahaalgaa
namespace Go.Proofs.Ythlidhfahaalgaa
open Go.RowKit
attribute [local go_sem ↓ high] app_named cop_named
end Go.Proofs.Ythlidhfahaalgaa
