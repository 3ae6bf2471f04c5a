/- Contract of Sync of the reference of chapter 4. (Printed by gen_dx.py.) -/
import Derived.Test.YthlidhfahaalgaaQDV
import Derived.Deep.DeepCutAuto
import Derived.Deep.RegionHeld3
set_option linter.unusedVariables false
set_option linter.unusedSimpArgs false
namespace Go.Proofs.Ythlidhfahaalgaa
open Go.RowKit
attribute [local go_sem ↓ high] app_named cop_named

/-- The rows of a slice appended to an empty row of the call's own. -/
theorem run_cloneR {w : World} {S : Nat → Prop} {n c a base : Nat} {A : Option Addr} {l : List Bs} (ha : w.heap[a]? = some (.cells #[] 35 (0, 0))) (hba : base ≤ a) (h : RwAt w S (.slice A n c) l) (hS : ∀ b, S b → b < base) (hn : l.length ≤ 1048576) (h0 : 0 < l.length) :
    ∃ g c' w', (appF #[22, 22] 22 #[.slice (some ⟨a, 0, none⟩) 0 0, .slice A n c]).run Try.prog w = .ok (.slice (some ⟨g, 0, none⟩) n c') w' ∧ Hid (OwnRw w' base S (.slice (some ⟨g, 0, none⟩) n c') l) ∧ Below base w w' ∧ w.grownBy w' (some a) ∧ base ≤ g ∧ g < w'.heap.size ∧ (g = a ∨ w.heap.size ≤ g) := by
  obtain ⟨hf, V, hs, hb⟩ := h
  obtain ⟨i, E⟩ := elem_rw
  obtain ⟨A', c0, hv, hm⟩ := hs.form
  cases hv
  have haw : a < w.heap.size := (Array.getElem?_eq_some_iff.1 ha).1
  have hown : w.ownsRow base 35 1 (.slice (some ⟨a, 0, none⟩) 0 0) 0 [] := ⟨rfl, .inr ⟨a, 0, #[], rfl, hba, ha, Nat.le_refl _, Nat.zero_le _, rfl, rfl⟩⟩
  obtain ⟨aa, rfl⟩ : ∃ aa, A = some aa := by
    rcases A with _ | aa
    · have := hs.sl.none_zero.2; omega
    · exact ⟨aa, rfl⟩
  have hsrc := (hs.sl.src (by decide)).2.2
  obtain ⟨v', w', hr, ho, hg, _, hob⟩ := run_append_own_at (P := Try.prog) (w := w) base 22 22 35 i (.slice none 0 0) 1 24 E.ht E.hi E.hz E.hsize E.hby E.hzs E.hsz _ 0 [] hown aa l.length c (flat l.length 1 (fun i _ => V i)) (flat_length _ _ _) hsrc (fun u hu => by
    obtain ⟨p, q, hp, hq, rfl⟩ := flat_mem (by decide) hu
    exact bsAt_one (hb p _ (List.getElem?_eq_getElem hp))) (by simp only [maxLen]; omega) (by omega) (by omega)
  have hbel : Below base w w' := (Below.refl base w).grown hg (by omega) (fun k hk => by cases hk; exact hba)
  have hO : OwnRw w' base S v' l := by
    refine ⟨flat l.length 1 (fun i _ => V i), by rw [Nat.zero_add, List.nil_append] at ho; exact ho, fun j x u hx hu => ?_⟩
    have hj := (List.getElem?_eq_some_iff.1 hx).1
    rw [flat_one, List.getElem?_map, List.getElem?_range hj] at hu
    cases hu
    exact (hb j x hx).keep (Keeps.from hbel (fun b h _ => hS b h))
  obtain ⟨g, c', rfl, _, hg1, hg2, _, _⟩ := hO.row rfl h0
  refine ⟨g, c', w', hr, hO, hbel, hg, hg1, hg2, ?_⟩
  rcases hob with h | h
  · exact .inl (by simpa [Value.ownBlock] using h)
  · exact .inr (by have : g = w.heap.size := by simpa [Value.ownBlock] using h
                   omega)
theorem BsAt.take {w : World} {S : Nat → Prop} {b off n c k : Nat} {l : Bs} (h : BsAt w S (.slice (some ⟨b, off, none⟩) n c) l) (hk : k ≤ n) (hc : n ≤ c ∧ c ≤ maxLen) : BsAt w S (.slice (some ⟨b, off, none⟩) k c) (l.take k) := by
  obtain ⟨_, hs⟩ := h
  have hn : n = l.length := by
    obtain ⟨_, _, hv, _⟩ := hs
    cases hv
    rfl
  subst hn
  have hl : (l.take k).length = k := by rw [List.length_take]; omega
  refine ⟨.inr ⟨_, _, _, rfl, by omega, hc.2⟩, ?_⟩
  rw [hl]
  refine ((hs.part 0 k c (by omega)).congr fun i j hi _ => ?_) |> fun h => by simpa using h
  simp only [Nat.zero_add, List.getD_eq_getElem?_getD, List.getElem?_take, if_pos hi]
theorem BsAt.drop {w : World} {S : Nat → Prop} {b off n c k : Nat} {l : Bs} (h : BsAt w S (.slice (some ⟨b, off, none⟩) n c) l) (hk : k ≤ n) (hc : n ≤ c ∧ c ≤ maxLen) : BsAt w S (.slice (some ⟨b, off + k, none⟩) (n - k) (c - k)) (l.drop k) := by
  obtain ⟨_, hs⟩ := h
  have hn : n = l.length := by
    obtain ⟨_, _, hv, _⟩ := hs
    cases hv
    rfl
  subst hn
  refine ⟨.inr ⟨_, _, _, rfl, by omega, by omega⟩, ?_⟩
  rw [List.length_drop]
  refine ((hs.part k (l.length - k) (c - k) (by omega)).congr fun i j hi _ => ?_) |> fun h => by simpa using h
  simp only [List.getD_eq_getElem?_getD, List.getElem?_drop]
theorem BsAt.row {w : World} {S : Nat → Prop} {A : Option Addr} {n c : Nat} {l : Bs} (h : BsAt w S (.slice A n c) l) (h0 : 0 < n) : ∃ b off, A = some ⟨b, off, none⟩ ∧ n ≤ c ∧ c ≤ maxLen ∧ S b ∧ b < w.heap.size := by
  obtain ⟨hf, A', c', hv, _, h1⟩ := h
  cases hv
  obtain ⟨b, off, rfl, hS, hb, _⟩ := h1 0 h0
  rcases hf with h2 | ⟨a, n', c'', h2, h3, h4⟩
  · cases h2
  · injection h2 with _ e1 e2
    exact ⟨b, off, rfl, by omega, by omega, hS, hb⟩
theorem run_ownBB {w : World} {base : Nat} {v x : Value} {S : Nat → Prop} {l y : Bs} (ho : OwnBs w base v l) (hy : BsAt w S x y) (hbase : base ≤ w.heap.size) (hl : l.length + y.length ≤ 1048576) :
    ∃ v' w', (appF #[35, 35] 35 #[v, x]).run Try.prog w = .ok v' w' ∧ OwnBs w' base v' (l ++ y) ∧ Below base w w' := by
  obtain ⟨i, E⟩ := elem_by
  have ho' : w.ownsRow base 5 1 v l.length (flat l.length 1 (fun i _ => .int .u8 ((l.getD i 0).toNat : Int))) := by rw [byV_flat]; exact ho
  have hrow := World.ownsRow.lt ho'
  obtain ⟨v', w', hr, ho2, hg⟩ := run_app_own E 35 ho' hy.2.sl hy.1 (fun _ _ _ _ => rfl) (by simp only [maxLen]; omega) (by omega) hbase
  refine ⟨v', w', hr, ?_, (Below.refl base w).grown hg hbase (fun k hk => (hrow k hk).1)⟩
  rw [flat_cat l.length y.length 1 (by decide), byV_flat, byV_flat, ← byV_append] at ho2
  unfold OwnBs
  rw [List.length_append]
  exact ho2
theorem OwnRw.other {w : World} {base g n c x o : Nat} {S : Nat → Prop} {l : List Bs} (h : OwnRw w base S (.slice (some ⟨g, 0, none⟩) n c) l) (hS : ¬ S x) (hx : g ≠ x) (u : Value) : OwnRw (w.setCell ⟨x, o, none⟩ u) base S (.slice (some ⟨g, 0, none⟩) n c) l := by
  obtain ⟨xs, ho, hb⟩ := h
  refine ⟨xs, ?_, fun i y v hy hv => (hb i y v hy hv).keep (Keeps.set w (a := ⟨x, o, none⟩) hS u)⟩
  obtain ⟨hl, ho⟩ := ho
  refine ⟨hl, ?_⟩
  rcases ho with ⟨h1, _⟩ | ⟨g', cap, cur, hv, hbg, hg, hr⟩
  · cases h1
  · cases hv
    exact .inr ⟨g, c, cur, rfl, hbg, (Below.heap_setCell w ⟨x, o, none⟩ u g hx).trans hg, hr⟩
set_option maxRecDepth 100000 in
set_option maxHeartbeats 4000000 in
theorem dRSync_1 (d : Dk) (As : Option Addr) (ns cs : Nat) (Ap : Option Addr) (np cp : Nat) (dl : Int) (ds : Bool) (S : Nat → Prop) (w : World) (hD : Hid (DkAt w S (.slice As ns cs) (.slice Ap np cp) d)) (hdl : Hid (d.left = dl)) (hds : Hid (d.stopped = ds)) (hc : Hid (d.checkT = 40)) (hs : Hid (syncT d = (Dk.zero, 40))) : Calls Try.prog 48 #[.agg #[.slice As ns cs, .slice Ap np cp, .int .i64 dl, .bool ds]] w (RetDk (syncT d) S w) := by
  have HB0 : Below w.heap.size w ((w.alloc (.cells #[.slice As ns cs, .slice Ap np cp, .int .i64 dl, .bool ds] 25)).alloc (.cells #[.slice none 0 0, .slice none 0 0, .int .i64 0, .bool false] 25)) := (((Below.refl w.heap.size w).alloc (by simp <;> omega) (.cells #[.slice As ns cs, .slice Ap np cp, .int .i64 dl, .bool ds] 25)).alloc (by simp <;> omega) (.cells #[.slice none 0 0, .slice none 0 0, .int .i64 0, .bool false] 25))
  have HD0 := Lib.hid (hD.out.keep (Keeps.of HB0))
  go_enter Try.func48, Try.ntmps48
  go_wp2_with fail
  refine (dRCheck_at hc HD0.out hdl hds).mono ?_
  rintro e w1 ⟨rfl, hb⟩
  have X0 := (((Box.newAt (n := w.heap.size) [.slice As ns cs, .slice Ap np cp, .int .i64 dl, .bool ds] 25 (by simp)).alloc _)).later hb
  have R := ((Box.newAt (n := w.heap.size + 1) [.slice none 0 0, .slice none 0 0, .int .i64 0, .bool false] 25 (by simp))).later hb
  have hB : Below w.heap.size w w1 := ((((Below.refl w.heap.size w).alloc (by simp <;> omega) _).alloc (by simp <;> omega) _)).trans (hb.mono (by simp <;> omega))
  clear hb
  have X0c0 : w1.cell? ⟨w.heap.size, 0, none⟩ = some (.slice As ns cs) := X0.cell 0
  have X0f0 : w1.frozen? ⟨w.heap.size, 0, none⟩ = false := X0.free 0
  have X0c1 : w1.cell? ⟨w.heap.size, 1, none⟩ = some (.slice Ap np cp) := X0.cell 1
  have X0f1 : w1.frozen? ⟨w.heap.size, 1, none⟩ = false := X0.free 1
  have X0c2 : w1.cell? ⟨w.heap.size, 2, none⟩ = some (.int .i64 dl) := X0.cell 2
  have X0f2 : w1.frozen? ⟨w.heap.size, 2, none⟩ = false := X0.free 2
  have X0c3 : w1.cell? ⟨w.heap.size, 3, none⟩ = some (.bool ds) := X0.cell 3
  have X0f3 : w1.frozen? ⟨w.heap.size, 3, none⟩ = false := X0.free 3
  have X0z : w.heap.size < w1.heap.size := X0.lt
  have Rc0 : w1.cell? ⟨w.heap.size + 1, 0, none⟩ = some (.slice none 0 0) := R.cell 0
  have Rf0 : w1.frozen? ⟨w.heap.size + 1, 0, none⟩ = false := R.free 0
  have Rc1 : w1.cell? ⟨w.heap.size + 1, 1, none⟩ = some (.slice none 0 0) := R.cell 1
  have Rf1 : w1.frozen? ⟨w.heap.size + 1, 1, none⟩ = false := R.free 1
  have Rc2 : w1.cell? ⟨w.heap.size + 1, 2, none⟩ = some (.int .i64 0) := R.cell 2
  have Rf2 : w1.frozen? ⟨w.heap.size + 1, 2, none⟩ = false := R.free 2
  have Rc3 : w1.cell? ⟨w.heap.size + 1, 3, none⟩ = some (.bool false) := R.cell 3
  have Rf3 : w1.frozen? ⟨w.heap.size + 1, 3, none⟩ = false := R.free 3
  have Rz : w.heap.size + 1 < w1.heap.size := R.lt
  go_wp2
  have hY := ((((R.set 0 (.slice none 0 0)).set 1 (.slice none 0 0)).set 2 (.int .i64 0)).set 3 (.bool false))
  have hB := ((((hB.setCell (p := ⟨w.heap.size + 1, 0, none⟩) (by simp <;> omega) (.slice none 0 0)).setCell (p := ⟨w.heap.size + 1, 1, none⟩) (by simp <;> omega) (.slice none 0 0)).setCell (p := ⟨w.heap.size + 1, 2, none⟩) (by simp <;> omega) (.int .i64 0)).setCell (p := ⟨w.heap.size + 1, 3, none⟩) (by simp <;> omega) (.bool false))
  generalize ((((w1.setCell ⟨w.heap.size + 1, 0, none⟩ (.slice none 0 0)).setCell ⟨w.heap.size + 1, 1, none⟩ (.slice none 0 0)).setCell ⟨w.heap.size + 1, 2, none⟩ (.int .i64 0)).setCell ⟨w.heap.size + 1, 3, none⟩ (.bool false)) = W at hY hB ⊢
  have y0 : W.cell? ⟨w.heap.size + 1, 0, none⟩ = some (.slice none 0 0) := hY.cell 0
  have y1 : W.cell? ⟨w.heap.size + 1, 1, none⟩ = some (.slice none 0 0) := hY.cell 1
  have y2 : W.cell? ⟨w.heap.size + 1, 2, none⟩ = some (.int .i64 0) := hY.cell 2
  have y3 : W.cell? ⟨w.heap.size + 1, 3, none⟩ = some (.bool false) := hY.cell 3
  refine bodyPost_ret (v := .tuple #[.agg #[.slice none 0 0, .slice none 0 0, .int .i64 0, .bool false], .int .i64 40]) (by simp [results, Try.results48, go_sem, y0, y1, y2, y3]) rfl ?_
  exact ⟨_, _, Dk.zero, 40, rfl, hs, dkAt_zero _ _, hB⟩

set_option maxRecDepth 100000 in
set_option maxHeartbeats 4000000 in
theorem dRSync_2 (d : Dk) (As : Option Addr) (ns cs : Nat) (Ap : Option Addr) (np cp : Nat) (dl : Int) (S : Nat → Prop) (w : World) (hD : Hid (DkAt w S (.slice As ns cs) (.slice Ap np cp) d)) (hdl : Hid (d.left = dl)) (hds : Hid (d.stopped = true)) (hc : Hid (d.checkT = 0)) (hs : Hid (syncT d = (Dk.zero, 40))) : Calls Try.prog 48 #[.agg #[.slice As ns cs, .slice Ap np cp, .int .i64 dl, .bool true]] w (RetDk (syncT d) S w) := by
  have HB0 : Below w.heap.size w ((w.alloc (.cells #[.slice As ns cs, .slice Ap np cp, .int .i64 dl, .bool true] 25)).alloc (.cells #[.slice none 0 0, .slice none 0 0, .int .i64 0, .bool false] 25)) := (((Below.refl w.heap.size w).alloc (by simp <;> omega) (.cells #[.slice As ns cs, .slice Ap np cp, .int .i64 dl, .bool true] 25)).alloc (by simp <;> omega) (.cells #[.slice none 0 0, .slice none 0 0, .int .i64 0, .bool false] 25))
  have HD0 := Lib.hid (hD.out.keep (Keeps.of HB0))
  go_enter Try.func48, Try.ntmps48
  go_wp2_with fail
  refine (dRCheck_at hc HD0.out hdl hds).mono ?_
  rintro e w1 ⟨rfl, hb⟩
  have X0 := (((Box.newAt (n := w.heap.size) [.slice As ns cs, .slice Ap np cp, .int .i64 dl, .bool true] 25 (by simp)).alloc _)).later hb
  have R := ((Box.newAt (n := w.heap.size + 1) [.slice none 0 0, .slice none 0 0, .int .i64 0, .bool false] 25 (by simp))).later hb
  have hB : Below w.heap.size w w1 := ((((Below.refl w.heap.size w).alloc (by simp <;> omega) _).alloc (by simp <;> omega) _)).trans (hb.mono (by simp <;> omega))
  clear hb
  have X0c0 : w1.cell? ⟨w.heap.size, 0, none⟩ = some (.slice As ns cs) := X0.cell 0
  have X0f0 : w1.frozen? ⟨w.heap.size, 0, none⟩ = false := X0.free 0
  have X0c1 : w1.cell? ⟨w.heap.size, 1, none⟩ = some (.slice Ap np cp) := X0.cell 1
  have X0f1 : w1.frozen? ⟨w.heap.size, 1, none⟩ = false := X0.free 1
  have X0c2 : w1.cell? ⟨w.heap.size, 2, none⟩ = some (.int .i64 dl) := X0.cell 2
  have X0f2 : w1.frozen? ⟨w.heap.size, 2, none⟩ = false := X0.free 2
  have X0c3 : w1.cell? ⟨w.heap.size, 3, none⟩ = some (.bool true) := X0.cell 3
  have X0f3 : w1.frozen? ⟨w.heap.size, 3, none⟩ = false := X0.free 3
  have X0z : w.heap.size < w1.heap.size := X0.lt
  have Rc0 : w1.cell? ⟨w.heap.size + 1, 0, none⟩ = some (.slice none 0 0) := R.cell 0
  have Rf0 : w1.frozen? ⟨w.heap.size + 1, 0, none⟩ = false := R.free 0
  have Rc1 : w1.cell? ⟨w.heap.size + 1, 1, none⟩ = some (.slice none 0 0) := R.cell 1
  have Rf1 : w1.frozen? ⟨w.heap.size + 1, 1, none⟩ = false := R.free 1
  have Rc2 : w1.cell? ⟨w.heap.size + 1, 2, none⟩ = some (.int .i64 0) := R.cell 2
  have Rf2 : w1.frozen? ⟨w.heap.size + 1, 2, none⟩ = false := R.free 2
  have Rc3 : w1.cell? ⟨w.heap.size + 1, 3, none⟩ = some (.bool false) := R.cell 3
  have Rf3 : w1.frozen? ⟨w.heap.size + 1, 3, none⟩ = false := R.free 3
  have Rz : w.heap.size + 1 < w1.heap.size := R.lt
  go_wp2
  have hY := ((((R.set 0 (.slice none 0 0)).set 1 (.slice none 0 0)).set 2 (.int .i64 0)).set 3 (.bool false))
  have hB := ((((hB.setCell (p := ⟨w.heap.size + 1, 0, none⟩) (by simp <;> omega) (.slice none 0 0)).setCell (p := ⟨w.heap.size + 1, 1, none⟩) (by simp <;> omega) (.slice none 0 0)).setCell (p := ⟨w.heap.size + 1, 2, none⟩) (by simp <;> omega) (.int .i64 0)).setCell (p := ⟨w.heap.size + 1, 3, none⟩) (by simp <;> omega) (.bool false))
  generalize ((((w1.setCell ⟨w.heap.size + 1, 0, none⟩ (.slice none 0 0)).setCell ⟨w.heap.size + 1, 1, none⟩ (.slice none 0 0)).setCell ⟨w.heap.size + 1, 2, none⟩ (.int .i64 0)).setCell ⟨w.heap.size + 1, 3, none⟩ (.bool false)) = W at hY hB ⊢
  have y0 : W.cell? ⟨w.heap.size + 1, 0, none⟩ = some (.slice none 0 0) := hY.cell 0
  have y1 : W.cell? ⟨w.heap.size + 1, 1, none⟩ = some (.slice none 0 0) := hY.cell 1
  have y2 : W.cell? ⟨w.heap.size + 1, 2, none⟩ = some (.int .i64 0) := hY.cell 2
  have y3 : W.cell? ⟨w.heap.size + 1, 3, none⟩ = some (.bool false) := hY.cell 3
  refine bodyPost_ret (v := .tuple #[.agg #[.slice none 0 0, .slice none 0 0, .int .i64 0, .bool false], .int .i64 40]) (by simp [results, Try.results48, go_sem, y0, y1, y2, y3]) rfl ?_
  exact ⟨_, _, Dk.zero, 40, rfl, hs, dkAt_zero _ _, hB⟩

set_option maxRecDepth 100000 in
set_option maxHeartbeats 16000000 in
theorem dRSync_5 (d : Dk) (As : Option Addr) (ns cs : Nat) (Ap : Option Addr) (np cp : Nat) (dl : Int) (S : Nat → Prop) (w : World) (hD : Hid (DkAt w S (.slice As ns cs) (.slice Ap np cp) d)) (hdl : Hid (d.left = dl)) (hds : Hid (d.stopped = false)) (hc : Hid (d.checkT = 0)) (hr : Hid (d.runs = true)) (hnp : Hid (d.pending.length = np)) (hns : Hid (d.sectors.length = ns)) (hl : dl < 0) (hs : Hid (syncT d = (⟨perf d.sectors d.pending, [], dl, false⟩, 0))) : Calls Try.prog 48 #[.agg #[.slice As ns cs, .slice Ap np cp, .int .i64 dl, .bool false]] w (RetDk (syncT d) S w) := by
  have HB0 : Below w.heap.size w ((w.alloc (.cells #[.slice As ns cs, .slice Ap np cp, .int .i64 dl, .bool false] 25)).alloc (.cells #[.slice none 0 0, .slice none 0 0, .int .i64 0, .bool false] 25)) := (((Below.refl w.heap.size w).alloc (by simp <;> omega) (.cells #[.slice As ns cs, .slice Ap np cp, .int .i64 dl, .bool false] 25)).alloc (by simp <;> omega) (.cells #[.slice none 0 0, .slice none 0 0, .int .i64 0, .bool false] 25))
  have HD0 := Lib.hid (hD.out.keep (Keeps.of HB0))
  obtain ⟨k1, k2, k3, k4, k5, k6, k7⟩ := okB_parts (runs_ok hr.out).1
  have HIN : Hid (∀ x ∈ d.pending, 0 ≤ x.at' ∧ x.at' < (d.sectors.length : Int)) := fun x hx => ⟨(k6 x hx).1, (k6 x hx).2.1⟩
  have H128 : Hid (∀ x ∈ d.pending, x.data.length = 128) := fun x hx => (k6 x hx).2.2
  have H128s : Hid (∀ x ∈ d.sectors, x.length = 128) := k7
  have hns4 : Hid (d.sectors.length ≤ 1048576) := by rw [Hid]; omega
  have hns0 : 0 < ns := by rw [← hns.out]; omega
  have hnp4 : np ≤ 4096 := by rw [← hnp.out]; omega
  clear k1 k2 k3 k4 k5 k6 k7
  go_enter Try.func48, Try.ntmps48
  go_wp2_with fail
  refine (dRCheck_at hc HD0.out hdl hds).mono ?_
  rintro e w1 ⟨rfl, hb⟩
  have X0 := (((Box.newAt (n := w.heap.size) [.slice As ns cs, .slice Ap np cp, .int .i64 dl, .bool false] 25 (by simp)).alloc _)).later hb
  have R := ((Box.newAt (n := w.heap.size + 1) [.slice none 0 0, .slice none 0 0, .int .i64 0, .bool false] 25 (by simp))).later hb
  have hB : Below w.heap.size w w1 := ((((Below.refl w.heap.size w).alloc (by simp <;> omega) _).alloc (by simp <;> omega) _)).trans (hb.mono (by simp <;> omega))
  clear hb
  have hR1 : w.heap.size + 1 < w1.heap.size := R.lt
  obtain ⟨base, hbase⟩ : ∃ base, w1.heap.size = base := ⟨_, rfl⟩
  have hBs : w.heap.size + 1 < base := by rw [← hbase]; exact hR1
  have hle1 : base ≤ w1.heap.size := Nat.le_of_eq hbase.symm
  have hle2 : w1.heap.size ≤ base := Nat.le_of_eq hbase
  clear hbase
  have nS : Hid (∀ x, base ≤ x → ¬ Old S w x) := fun x hx h => by have := h.2; omega
  have X0c0 : w1.cell? ⟨w.heap.size, 0, none⟩ = some (.slice As ns cs) := X0.cell 0
  have X0f0 : w1.frozen? ⟨w.heap.size, 0, none⟩ = false := X0.free 0
  have X0c1 : w1.cell? ⟨w.heap.size, 1, none⟩ = some (.slice Ap np cp) := X0.cell 1
  have X0f1 : w1.frozen? ⟨w.heap.size, 1, none⟩ = false := X0.free 1
  have X0c2 : w1.cell? ⟨w.heap.size, 2, none⟩ = some (.int .i64 dl) := X0.cell 2
  have X0f2 : w1.frozen? ⟨w.heap.size, 2, none⟩ = false := X0.free 2
  have X0c3 : w1.cell? ⟨w.heap.size, 3, none⟩ = some (.bool false) := X0.cell 3
  have X0f3 : w1.frozen? ⟨w.heap.size, 3, none⟩ = false := X0.free 3
  have X0z : w.heap.size < w1.heap.size := X0.lt
  have Rc0 : w1.cell? ⟨w.heap.size + 1, 0, none⟩ = some (.slice none 0 0) := R.cell 0
  have Rf0 : w1.frozen? ⟨w.heap.size + 1, 0, none⟩ = false := R.free 0
  have Rc1 : w1.cell? ⟨w.heap.size + 1, 1, none⟩ = some (.slice none 0 0) := R.cell 1
  have Rf1 : w1.frozen? ⟨w.heap.size + 1, 1, none⟩ = false := R.free 1
  have Rc2 : w1.cell? ⟨w.heap.size + 1, 2, none⟩ = some (.int .i64 0) := R.cell 2
  have Rf2 : w1.frozen? ⟨w.heap.size + 1, 2, none⟩ = false := R.free 2
  have Rc3 : w1.cell? ⟨w.heap.size + 1, 3, none⟩ = some (.bool false) := R.cell 3
  have Rf3 : w1.frozen? ⟨w.heap.size + 1, 3, none⟩ = false := R.free 3
  have Rz : w.heap.size + 1 < w1.heap.size := R.lt
  go_wp2_with fail
  clear X0c0 X0f0 X0c1 X0f1 X0c2 X0f2 X0c3 X0f3 X0z Rc0 Rf0 Rc1 Rf1 Rc2 Rf2 Rc3 Rf3 Rz
  go_cut [6] (fun s6 wx => ∃ (xa gg cc : Nat), s6 = .pointer (some ⟨xa, 0, none⟩) ∧ Box wx xa [.slice (some ⟨gg, 0, none⟩) ns cc, .slice none 0 0, .int .i64 dl, .bool false] ∧ Hid (OwnRw wx base (Old S w) (.slice (some ⟨gg, 0, none⟩) ns cc) d.sectors) ∧ Box wx (w.heap.size) [.slice As ns cs, .slice Ap np cp, .int .i64 dl, .bool false] ∧ Box wx (w.heap.size + 1) [.slice none 0 0, .slice none 0 0, .int .i64 0, .bool false] ∧ Below w.heap.size w wx ∧ base ≤ xa ∧ base ≤ gg ∧ gg ≠ xa)
  case first =>
    have Bza : Below w.heap.size w (w1.alloc (.cells #[] 35)).drew := (hB.alloc hB.size (.cells #[] 35)).drew
    obtain ⟨ga, ca, xa, hra, Oa, hba, hga, gba, gla, gea⟩ := run_cloneR (w := (w1.alloc (.cells #[] 35)).drew) (a := w1.heap.size) (base := base) (by show (w1.heap.push _)[w1.heap.size]? = _; simp) (by omega) (hD.out.old.keep (Keeps.of Bza)).sectors (fun b h => by have := h.2; omega) hns4.out (by rw [hns.out]; exact hns0)
    have Ra : (appF #[22, 22] 22 #[.slice (some ⟨w1.heap.size, 0, none⟩) 0 0, .slice As ns cs]).run Try.prog (w1.alloc (.cells #[] 35)).drew = .ok (.slice (some ⟨ga, 0, none⟩) ns ca) xa := hra
    have X0a := ((X0.alloc (.cells #[] 35)).drew).keep (D := base) (by omega) hba
    have RRa := ((R.alloc (.cells #[] 35)).drew).keep (D := base) (by omega) hba
    have B1a : Below w.heap.size w xa := Bza.trans (hba.mono (by omega))
    have y0a : xa.cell? ⟨w.heap.size, 0, none⟩ = some (.slice As ns cs) := X0a.cell 0
    have y2a : xa.cell? ⟨w.heap.size, 2, none⟩ = some (.int .i64 dl) := X0a.cell 2
    have yza : w.heap.size < xa.heap.size := X0a.lt
    have zza : base ≤ xa.heap.size := by have := hba.size; simp at this; omega
    clear hra hba Bza gea
    have Bzb : Below w.heap.size w ((w1.alloc (.cells #[] 35)).alloc (.cells #[.slice none 0 0, .slice none 0 0, .int .i64 0, .bool false] 25)).drew := ((hB.alloc hB.size (.cells #[] 35)).alloc (by have := hB.size; simp; omega) (.cells #[.slice none 0 0, .slice none 0 0, .int .i64 0, .bool false] 25)).drew
    obtain ⟨gb, cb, xb, hrb, Ob, hbb, hgb, gbb, glb, geb⟩ := run_cloneR (w := ((w1.alloc (.cells #[] 35)).alloc (.cells #[.slice none 0 0, .slice none 0 0, .int .i64 0, .bool false] 25)).drew) (a := w1.heap.size) (base := base) (by show ((w1.heap.push _).push _)[w1.heap.size]? = _; rw [Array.getElem?_push, if_neg (by simp), Array.getElem?_push_size]) (by omega) (hD.out.old.keep (Keeps.of Bzb)).sectors (fun b h => by have := h.2; omega) hns4.out (by rw [hns.out]; exact hns0)
    have Rb : (appF #[22, 22] 22 #[.slice (some ⟨w1.heap.size, 0, none⟩) 0 0, .slice As ns cs]).run Try.prog ((w1.alloc (.cells #[] 35)).alloc (.cells #[.slice none 0 0, .slice none 0 0, .int .i64 0, .bool false] 25)).drew = .ok (.slice (some ⟨gb, 0, none⟩) ns cb) xb := hrb
    have X0b := (((X0.alloc (.cells #[] 35)).alloc (.cells #[.slice none 0 0, .slice none 0 0, .int .i64 0, .bool false] 25)).drew).keep (D := base) (by omega) hbb
    have RRb := (((R.alloc (.cells #[] 35)).alloc (.cells #[.slice none 0 0, .slice none 0 0, .int .i64 0, .bool false] 25)).drew).keep (D := base) (by omega) hbb
    have B1b : Below w.heap.size w xb := Bzb.trans (hbb.mono (by omega))
    have y0b : xb.cell? ⟨w.heap.size, 0, none⟩ = some (.slice As ns cs) := X0b.cell 0
    have y2b : xb.cell? ⟨w.heap.size, 2, none⟩ = some (.int .i64 dl) := X0b.cell 2
    have yzb : w.heap.size < xb.heap.size := X0b.lt
    have zzb : base ≤ xb.heap.size := by have := hbb.size; simp at this; omega
    have Pb : Box xb (w1.heap.size + 1) [.slice none 0 0, .slice none 0 0, .int .i64 0, .bool false] := ((Box.newAt (w := (w1.alloc (.cells #[] 35))) (n := w1.heap.size + 1) [.slice none 0 0, .slice none 0 0, .int .i64 0, .bool false] 25 (by simp)).drew).same (hgb.block _ (by simp <;> omega) (by simp))
    have p0b : xb.cell? ⟨w1.heap.size + 1, 0, none⟩ = some (.slice none 0 0) := Pb.cell 0
    have p1b : xb.cell? ⟨w1.heap.size + 1, 1, none⟩ = some (.slice none 0 0) := Pb.cell 1
    have p2b : xb.cell? ⟨w1.heap.size + 1, 2, none⟩ = some (.int .i64 0) := Pb.cell 2
    have p3b : xb.cell? ⟨w1.heap.size + 1, 3, none⟩ = some (.bool false) := Pb.cell 3
    have pf0b := Pb.free 0
    have pf1b := Pb.free 1
    have pf2b := Pb.free 2
    have pf3b := Pb.free 3
    have pzb := Pb.lt
    have gxb : gb ≠ w1.heap.size + 1 := by
      have h := geb
      simp at h
      omega
    clear hrb hbb Bzb geb
    have Bzc : Below w.heap.size w ((w1.alloc (.cells #[.slice none 0 0, .slice none 0 0, .int .i64 0, .bool false] 25)).alloc (.cells #[] 35)).drew := ((hB.alloc hB.size (.cells #[.slice none 0 0, .slice none 0 0, .int .i64 0, .bool false] 25)).alloc (by have := hB.size; simp; omega) (.cells #[] 35)).drew
    obtain ⟨gc, cc, xc, hrc, Oc, hbc, hgc, gbc, glc, gec⟩ := run_cloneR (w := ((w1.alloc (.cells #[.slice none 0 0, .slice none 0 0, .int .i64 0, .bool false] 25)).alloc (.cells #[] 35)).drew) (a := w1.heap.size + 1) (base := base) (by show ((w1.heap.push _).push _)[w1.heap.size + 1]? = _; rw [Array.getElem?_push, if_pos (by simp)]) (by omega) (hD.out.old.keep (Keeps.of Bzc)).sectors (fun b h => by have := h.2; omega) hns4.out (by rw [hns.out]; exact hns0)
    have Rc : (appF #[22, 22] 22 #[.slice (some ⟨w1.heap.size + 1, 0, none⟩) 0 0, .slice As ns cs]).run Try.prog ((w1.alloc (.cells #[.slice none 0 0, .slice none 0 0, .int .i64 0, .bool false] 25)).alloc (.cells #[] 35)).drew = .ok (.slice (some ⟨gc, 0, none⟩) ns cc) xc := hrc
    have X0c := (((X0.alloc (.cells #[.slice none 0 0, .slice none 0 0, .int .i64 0, .bool false] 25)).alloc (.cells #[] 35)).drew).keep (D := base) (by omega) hbc
    have RRc := (((R.alloc (.cells #[.slice none 0 0, .slice none 0 0, .int .i64 0, .bool false] 25)).alloc (.cells #[] 35)).drew).keep (D := base) (by omega) hbc
    have B1c : Below w.heap.size w xc := Bzc.trans (hbc.mono (by omega))
    have y0c : xc.cell? ⟨w.heap.size, 0, none⟩ = some (.slice As ns cs) := X0c.cell 0
    have y2c : xc.cell? ⟨w.heap.size, 2, none⟩ = some (.int .i64 dl) := X0c.cell 2
    have yzc : w.heap.size < xc.heap.size := X0c.lt
    have zzc : base ≤ xc.heap.size := by have := hbc.size; simp at this; omega
    have Pc : Box xc (w1.heap.size) [.slice none 0 0, .slice none 0 0, .int .i64 0, .bool false] := (((Box.newAt (w := w1) (n := w1.heap.size) [.slice none 0 0, .slice none 0 0, .int .i64 0, .bool false] 25 rfl).alloc (.cells #[] 35)).drew).same (hgc.block _ (by simp <;> omega) (by simp))
    have p0c : xc.cell? ⟨w1.heap.size, 0, none⟩ = some (.slice none 0 0) := Pc.cell 0
    have p1c : xc.cell? ⟨w1.heap.size, 1, none⟩ = some (.slice none 0 0) := Pc.cell 1
    have p2c : xc.cell? ⟨w1.heap.size, 2, none⟩ = some (.int .i64 0) := Pc.cell 2
    have p3c : xc.cell? ⟨w1.heap.size, 3, none⟩ = some (.bool false) := Pc.cell 3
    have pf0c := Pc.free 0
    have pf1c := Pc.free 1
    have pf2c := Pc.free 2
    have pf3c := Pc.free 3
    have pzc := Pc.lt
    have gxc : gc ≠ w1.heap.size := by
      have h := gec
      simp at h
      omega
    clear hrc hbc Bzc gec
    have x0 : w1.cell? ⟨w.heap.size, 0, none⟩ = some (.slice As ns cs) := X0.cell 0
    have x2 : w1.cell? ⟨w.heap.size, 2, none⟩ = some (.int .i64 dl) := X0.cell 2
    have xz : w.heap.size < w1.heap.size := X0.lt
    go_region
    all_goals (go_wp2_with fail; go_meet)
    all_goals first
      | exact ⟨_, ga, ca, rfl, Box.new xa _ _, Lib.hid (Oa.out.keep ((Below.refl _ _).alloc (Nat.le_refl _) _)), X0a.alloc _, RRa.alloc _, B1a.alloc B1a.size _, zza, gba, by omega⟩
      | exact ⟨_, gb, cb, rfl, ((((Pb.set 0 (.slice (some ⟨gb, 0, none⟩) ns cb)).set 1 (.slice none 0 0)).set 2 (.int .i64 dl)).set 3 (.bool false)), Lib.hid ((((Ob.out.other (x := w1.heap.size + 1) (o := 0) (nS.out _ (by omega)) gxb (.slice (some ⟨gb, 0, none⟩) ns cb)).other (x := w1.heap.size + 1) (o := 1) (nS.out _ (by omega)) gxb (.slice none 0 0)).other (x := w1.heap.size + 1) (o := 2) (nS.out _ (by omega)) gxb (.int .i64 dl)).other (x := w1.heap.size + 1) (o := 3) (nS.out _ (by omega)) gxb (.bool false)), ((((X0b.other (a := ⟨w1.heap.size + 1, 0, none⟩) (by simp <;> omega) (.slice (some ⟨gb, 0, none⟩) ns cb)).other (a := ⟨w1.heap.size + 1, 1, none⟩) (by simp <;> omega) (.slice none 0 0)).other (a := ⟨w1.heap.size + 1, 2, none⟩) (by simp <;> omega) (.int .i64 dl)).other (a := ⟨w1.heap.size + 1, 3, none⟩) (by simp <;> omega) (.bool false)), ((((RRb.other (a := ⟨w1.heap.size + 1, 0, none⟩) (by simp <;> omega) (.slice (some ⟨gb, 0, none⟩) ns cb)).other (a := ⟨w1.heap.size + 1, 1, none⟩) (by simp <;> omega) (.slice none 0 0)).other (a := ⟨w1.heap.size + 1, 2, none⟩) (by simp <;> omega) (.int .i64 dl)).other (a := ⟨w1.heap.size + 1, 3, none⟩) (by simp <;> omega) (.bool false)), ((((B1b.setCell (p := ⟨w1.heap.size + 1, 0, none⟩) (by simp <;> omega) (.slice (some ⟨gb, 0, none⟩) ns cb)).setCell (p := ⟨w1.heap.size + 1, 1, none⟩) (by simp <;> omega) (.slice none 0 0)).setCell (p := ⟨w1.heap.size + 1, 2, none⟩) (by simp <;> omega) (.int .i64 dl)).setCell (p := ⟨w1.heap.size + 1, 3, none⟩) (by simp <;> omega) (.bool false)), by omega, gbb, gxb⟩
      | exact ⟨_, gc, cc, rfl, ((((Pc.set 0 (.slice (some ⟨gc, 0, none⟩) ns cc)).set 1 (.slice none 0 0)).set 2 (.int .i64 dl)).set 3 (.bool false)), Lib.hid ((((Oc.out.other (x := w1.heap.size) (o := 0) (nS.out _ (by omega)) gxc (.slice (some ⟨gc, 0, none⟩) ns cc)).other (x := w1.heap.size) (o := 1) (nS.out _ (by omega)) gxc (.slice none 0 0)).other (x := w1.heap.size) (o := 2) (nS.out _ (by omega)) gxc (.int .i64 dl)).other (x := w1.heap.size) (o := 3) (nS.out _ (by omega)) gxc (.bool false)), ((((X0c.other (a := ⟨w1.heap.size, 0, none⟩) (by simp <;> omega) (.slice (some ⟨gc, 0, none⟩) ns cc)).other (a := ⟨w1.heap.size, 1, none⟩) (by simp <;> omega) (.slice none 0 0)).other (a := ⟨w1.heap.size, 2, none⟩) (by simp <;> omega) (.int .i64 dl)).other (a := ⟨w1.heap.size, 3, none⟩) (by simp <;> omega) (.bool false)), ((((RRc.other (a := ⟨w1.heap.size, 0, none⟩) (by simp <;> omega) (.slice (some ⟨gc, 0, none⟩) ns cc)).other (a := ⟨w1.heap.size, 1, none⟩) (by simp <;> omega) (.slice none 0 0)).other (a := ⟨w1.heap.size, 2, none⟩) (by simp <;> omega) (.int .i64 dl)).other (a := ⟨w1.heap.size, 3, none⟩) (by simp <;> omega) (.bool false)), ((((B1c.setCell (p := ⟨w1.heap.size, 0, none⟩) (by simp <;> omega) (.slice (some ⟨gc, 0, none⟩) ns cc)).setCell (p := ⟨w1.heap.size, 1, none⟩) (by simp <;> omega) (.slice none 0 0)).setCell (p := ⟨w1.heap.size, 2, none⟩) (by simp <;> omega) (.int .i64 dl)).setCell (p := ⟨w1.heap.size, 3, none⟩) (by simp <;> omega) (.bool false)), by omega, gbc, gxc⟩
  case rest =>
    obtain ⟨xa, gg, cc, rfl, Xx, HO, X0, RR, hB, hxa, hgg, hgx⟩ := hcut
    have gX : gg ≠ w.heap.size := by omega
    have gR : gg ≠ w.heap.size + 1 := by omega
    have xX : xa ≠ w.heap.size := by omega
    have xR : xa ≠ w.heap.size + 1 := by omega
    have HPL : ∀ l, Hid ((perf d.sectors l).length = ns) := fun l => by rw [Hid, perf_length, hns.out]
    have HPL := Lib.hid HPL
    have x0 : wc.cell? ⟨w.heap.size, 0, none⟩ = some (.slice As ns cs) := X0.cell 0
    go_wp2_with fail
    clear x0
    go_loopw [7] (fun i wr => ∃ k : Nat, k ≤ np ∧ i = .int .i64 k ∧ Hid (OwnRw wr base (Old S w) (.slice (some ⟨gg, 0, none⟩) ns cc) (perf d.sectors (d.pending.take k))) ∧ Box wr xa [.slice (some ⟨gg, 0, none⟩) ns cc, .slice none 0 0, .int .i64 dl, .bool false] ∧ Box wr (w.heap.size) [.slice As ns cs, .slice Ap np cp, .int .i64 dl, .bool false] ∧ Box wr (w.heap.size + 1) [.slice none 0 0, .slice none 0 0, .int .i64 0, .bool false] ∧ Below w.heap.size w wr) (fun i _ => np - (intOf i).toNat)
    case atStart => exact ⟨0, by omega, rfl, HO, Xx, X0, RR, hB⟩
    case round =>
      clear HO Xx X0 RR hB
      obtain ⟨k, hk, rfl, HO, Xx, X0, RR, hB⟩ := hrel
      by_cases hlt : k < np
      · have hkl : k < d.pending.length := by rw [hnp.out]; omega
        obtain ⟨pb, po, U, rfl, hSp, hpb, q0, q1, hU⟩ := hD.out.pending.wr hkl
        obtain ⟨hi1, hi2⟩ := HIN.out _ (List.getElem_mem hkl)
        rw [hns.out] at hi2
        have q0 := (hB.cell hpb).trans q0
        have q1 := (hB.cell hpb).trans q1
        have hU := hU.old.keep (Keeps.of hB)
        have hpt := perf_take (s := d.sectors) hkl
        obtain ⟨⟨ta, xd⟩, hx⟩ : ∃ x, d.pending[k] = x := ⟨_, rfl⟩
        rw [hx] at q0 hU hi1 hi2 hpt
        dsimp only at q0 hU hi1 hi2 hpt
        obtain ⟨Au, cu, rfl, _⟩ := hU.form
        obtain ⟨ul, hul⟩ : ∃ ul, xd.length = ul := ⟨_, rfl⟩
        rw [hul] at q1 hU
        obtain ⟨a, rfl⟩ : ∃ a : Nat, ta = a := ⟨ta.toNat, by omega⟩
        have HPT := Lib.hid hpt
        have HU := Lib.hid hU
        have ha : a < ns := by omega
        have gp : gg ≠ pb := by omega
        have hpW := Nat.lt_of_lt_of_le hpb hB.size
        clear hx hpt hU hi1 hul hSp
        obtain ⟨g', c', e', _, _, hgw, hgc, hgf⟩ := HO.out.row (HPL.out _).out hns0
        cases e'
        obtain ⟨u, hu, _⟩ := hgc a ha
        have hf := hgf a
        clear hgc hgf
        have x0 : wr.cell? ⟨xa, 0, none⟩ = some (.slice (some ⟨gg, 0, none⟩) ns cc) := Xx.cell 0
        have x1 : wr.cell? ⟨w.heap.size, 1, none⟩ = some (.slice (some ⟨pb, po, none⟩) np cp) := X0.cell 1
        have xz := Xx.lt
        have yz := X0.lt
        have k0 : (0 : Int) ≤ (k : Int) := by omega
        have k1 : (k : Int) < (np : Int) := by omega
        have a0 : (0 : Int) ≤ (a : Int) := by omega
        have a1 : (a : Int) < (ns : Int) := by omega
        go_wp2_with fail
        go_region
        go_wp2
        refine ⟨⟨k + 1, by omega, by go_num, ?_, (Xx.other (a := ⟨gg, a, none⟩) (Ne.symm hgx) _).drew, (X0.other (a := ⟨gg, a, none⟩) (Ne.symm gX) _).drew, (RR.other (a := ⟨gg, a, none⟩) (Ne.symm gR) _).drew, (hB.setCell (p := ⟨gg, a, none⟩) (by simp <;> omega) _).drew⟩, by simp [intOf]; omega⟩
        rw [HPT.out, Int.toNat_natCast]
        exact HO.out.set (nS.out _ hgg) ha (HPL.out _).out HU.out
      · obtain rfl : np = k := by omega
        have hfull : Hid (d.pending.take np = d.pending) := by rw [Hid]; rw [← hnp.out, List.take_length]
        rw [hfull.out] at HO
        have x0 : wr.cell? ⟨xa, 0, none⟩ = some (.slice (some ⟨gg, 0, none⟩) ns cc) := Xx.cell 0
        have x1 : wr.cell? ⟨xa, 1, none⟩ = some (.slice none 0 0) := Xx.cell 1
        have x2 : wr.cell? ⟨xa, 2, none⟩ = some (.int .i64 dl) := Xx.cell 2
        have x3 : wr.cell? ⟨xa, 3, none⟩ = some (.bool false) := Xx.cell 3
        have xf2 := Xx.free 2
        have xf3 := Xx.free 3
        have xz := Xx.lt
        have r0 : wr.cell? ⟨w.heap.size + 1, 0, none⟩ = some (.slice none 0 0) := RR.cell 0
        have r1 : wr.cell? ⟨w.heap.size + 1, 1, none⟩ = some (.slice none 0 0) := RR.cell 1
        have r2 : wr.cell? ⟨w.heap.size + 1, 2, none⟩ = some (.int .i64 0) := RR.cell 2
        have r3 : wr.cell? ⟨w.heap.size + 1, 3, none⟩ = some (.bool false) := RR.cell 3
        have rf0 := RR.free 0
        have rf1 := RR.free 1
        have rf2 := RR.free 2
        have rf3 := RR.free 3
        have rz := RR.lt
        go_wp2
        have nR : ¬ Old S w (w.heap.size + 1) := fun h => by have := h.2; omega
        have ZR := ((((RR.set 0 (.slice (some ⟨gg, 0, none⟩) ns cc)).set 1 (.slice none 0 0)).set 2 (.int .i64 (dl))).set 3 (.bool false))
        have HB := ((((hB.setCell (p := ⟨w.heap.size + 1, 0, none⟩) (by simp <;> omega) (.slice (some ⟨gg, 0, none⟩) ns cc)).setCell (p := ⟨w.heap.size + 1, 1, none⟩) (by simp <;> omega) (.slice none 0 0)).setCell (p := ⟨w.heap.size + 1, 2, none⟩) (by simp <;> omega) (.int .i64 (dl))).setCell (p := ⟨w.heap.size + 1, 3, none⟩) (by simp <;> omega) (.bool false))
        have hO9 := ((((HO.out.other (x := w.heap.size + 1) (o := 0) nR gR (.slice (some ⟨gg, 0, none⟩) ns cc)).other (x := w.heap.size + 1) (o := 1) nR gR (.slice none 0 0)).other (x := w.heap.size + 1) (o := 2) nR gR (.int .i64 (dl))).other (x := w.heap.size + 1) (o := 3) nR gR (.bool false))
        clear x0 x1 x2 x3 xf2 xf3 xz r0 r1 r2 r3 rf0 rf1 rf2 rf3 rz
        generalize ((((wr.setCell ⟨w.heap.size + 1, 0, none⟩ (.slice (some ⟨gg, 0, none⟩) ns cc)).setCell ⟨w.heap.size + 1, 1, none⟩ (.slice none 0 0)).setCell ⟨w.heap.size + 1, 2, none⟩ (.int .i64 (dl))).setCell ⟨w.heap.size + 1, 3, none⟩ (.bool false)) = W at ZR HB hO9 ⊢
        have z0 : W.cell? ⟨w.heap.size + 1, 0, none⟩ = some (.slice (some ⟨gg, 0, none⟩) ns cc) := ZR.cell 0
        have z1 : W.cell? ⟨w.heap.size + 1, 1, none⟩ = some (.slice none 0 0) := ZR.cell 1
        have z2 : W.cell? ⟨w.heap.size + 1, 2, none⟩ = some (.int .i64 (dl)) := ZR.cell 2
        have z3 : W.cell? ⟨w.heap.size + 1, 3, none⟩ = some (.bool false) := ZR.cell 3
        refine bodyPost_ret (v := .tuple #[.agg #[.slice (some ⟨gg, 0, none⟩) ns cc, .slice none 0 0, .int .i64 (dl), .bool false], .int .i64 0]) (by simp [results, Try.results48, go_sem, z0, z1, z2, z3]) rfl ?_
        refine ⟨_, _, _, 0, rfl, hs, Lib.hid ⟨?_, wsAt_nil _ _⟩, HB⟩
        exact hO9.rows (by rw [(HPL.out _).out]; have := hns4.out; rw [hns.out] at this; unfold maxLen; omega) (fun b h _ => .inl h.1) (fun b h => .inr (by omega))


end Go.Proofs.Ythlidhfahaalgaa
