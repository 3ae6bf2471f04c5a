/- Open of chapter 5: what it comes to, and its walk over the iterator. The disk's slices are small. -/
import Derived.Test.YthlidhfahaalgaaQK
import Derived.Test.YthlidhfahaalgaaQJM
import Derived.Test.YthlidhfahaalgaaQDX
import Derived.Deep.CutBlock
import Derived.Deep.LoopGhost
import Derived.Test.YthlidhfahaalgaaQDM
import Derived.Lib.MinMax
import Derived.Test.YthlidhfahaalgaaQJF
set_option linter.unusedVariables false
set_option linter.unusedSimpArgs false
set_option maxRecDepth 100000
set_option maxHeartbeats 8000000
namespace Go.Proofs.Ythlidhfahaalgaa
open Go.RowKit Go.Shelf
attribute [local go_sem] Oper.semAt_some
attribute [local go_sem ↓ high] app_named cop_named
def Jn.zero : Jn := ⟨[], 0, 0⟩
def openT (d : Dk) : Jn × Int := if d.checkT ≠ 0 then (Jn.zero, d.checkT) else if d.stopped = true then (Jn.zero, 40) else if d.pending ≠ [] then (Jn.zero, 1) else (⟨recordsT d.sectors, (d.sectors.length : Int), ((recordsT d.sectors).length : Int)⟩, 0)
def RetJn (t : Jn × Int) (S : Nat → Prop) (w : World) (e : Ending) (w' : World) : Prop := ∃ (A : Option Addr) (n c : Nat) (m : Jn) (er : Int), e = .returned (.tuple #[.agg #[.slice A n c, .int .i64 m.many, .int .i64 m.synced], .int .i64 er]) ∧ Hid (t = (m, er)) ∧ Hid (m.records.length = n) ∧ Hid (RwAt w' (Grow S w) (.slice A n c) m.records) ∧ Below w.heap.size w w'
theorem recs_len (f k last : Nat) (l : List Bs) : (recsT f k last l).length ≤ l.length := by
  induction f generalizing k last l with
  | zero => simp [recsT]
  | succ f ih =>
    unfold recsT
    rcases l with _ | ⟨s, r⟩
    · simp
    · dsimp only
      cases hr : recGo (genT s) k true (s :: r) with
      | none => simp
      | some x =>
        obtain ⟨b, n⟩ := x
        have hp := recGo_pos hr
        dsimp only
        split
        · simp
        · have := ih (k + n) (genT s) ((s :: r).drop n)
          rw [List.length_drop] at this
          rw [List.length_cons]
          omega
theorem records_len (l : List Bs) : (recordsT l).length ≤ l.length := recs_len _ _ _ _
theorem jRecords_any (A : Option Addr) (k c : Nat) (w : World) : Calls Try.prog 32 #[.slice A k c] w fun e w' =>
    e = .returned (.func (.func 60) #[] #[.pointer (some ⟨w.heap.size, 0, none⟩)]) ∧ Box w' w.heap.size [.slice A k c] ∧ Below w.heap.size w w' := by
  have hmf : ∀ (fn : Fn) (first cap : Array Value) (w : World), (Instr.makeFunc fn first cap).run Try.prog w = .ok (.func fn first cap) w := fun _ _ _ _ => rfl
  go_enter Try.func32, Try.ntmps32
  go_wp2
  have X0 := Box.new w [.slice A k c] 22
  go_ret
  exact ⟨rfl, X0, (Below.refl _ _).alloc (Nat.le_refl _) _⟩
theorem slP_put {w : World} {S : Nat → Prop} {size n D : Nat} {g : Nat → Nat → Value} {v : Value} {x : Option (List Deferred)} (h : SlP w S size n g v) (hs : 0 < size) (hD : w.heap[D]? = some (.deferred x)) (o : Obj) : SlP (w.putObj D o) S size n g v := by
  obtain ⟨A, c, hv, hm, h1⟩ := h
  refine ⟨A, c, hv, hm, fun i hi => ?_⟩
  obtain ⟨b, off, ha, hb, hl, h3⟩ := h1 i hi
  have hne : b ≠ D := by
    rintro rfl
    have := h3 0 hs
    rw [World.cell?] at this
    simp [hD] at this
  exact ⟨b, off, ha, hb, by simpa using hl, fun j hj => by rw [World.cell?_of_block (w := w) (World.putObj_heap_other hne)]; exact h3 j hj⟩
theorem rwAt_put {w : World} {S : Nat → Prop} {D : Nat} {v : Value} {l : List Bs} {x : Option (List Deferred)} (h : RwAt w S v l) (hD : w.heap[D]? = some (.deferred x)) (o : Obj) : RwAt (w.putObj D o) S v l := by
  obtain ⟨h0, V, h1, h2⟩ := h
  exact ⟨h0, V, slP_put h1 (by decide) hD o, fun i y hy => ⟨(h2 i y hy).1, slP_put (h2 i y hy).2 (by decide) hD o⟩⟩
def ToldR (pre : List Bs) (b : Bs) (vs : Array Value) (wo W : World) : Prop := ∃ (k : Int) (A : Option Addr) (n c : Nat), vs = #[.int .i64 k, .slice A n c] ∧ BsAt W (fun g => wo.heap.size ≤ g) (.slice A n c) b ∧ b.length ≤ 458752 ∧ pre.length < 4096
def OpenI (w : World) (R base : Nat) (many : Int) (pre : List Bs) (W : World) : Prop := ∃ V, Box W R [V, .int .i64 many, .int .i64 0] ∧ OwnRw W base (Side base V) V pre ∧ Below w.heap.size w W
theorem jOpen_go (d : Dk) (As : Option Addr) (ns cs : Nat) (Ap : Option Addr) (np cp : Nat) (dl : Int) (ds : Bool) (S : Nat → Prop) (w : World) (hD : Hid (DkAt w S (.slice As ns cs) (.slice Ap np cp) d)) (hdl : Hid (d.left = dl)) (hds : Hid (d.stopped = ds)) (hns : Hid (d.sectors.length = ns)) (hnp : Hid (d.pending.length = np))
    (hc : Hid (d.checkT = 0)) (hst : ds = false) (hpn : np = 0) (h128 : Hid (∀ s ∈ d.sectors, s.length = 128)) (hns2 : ns ≤ 4096) :
    Calls Try.prog 12 #[.agg #[.slice As ns cs, .slice Ap np cp, .int .i64 dl, .bool ds]] w (RetJn (openT d) S w) := by
  subst hst hpn
  refine calls_of_wp_marks Try.func12 rfl ?_
  simp only [Try.ntmps12, List.size_toArray, List.length_cons, List.length_nil, Nat.reduceAdd, Nat.reduceSub, Array.replicate_succ, Array.replicate_zero, List.push_toArray, List.append_toArray, List.nil_append, List.cons_append]
  have HB0 := ((Below.refl w.heap.size w).alloc (Nat.le_refl _) (.cells #[.slice As ns cs, .slice Ap 0 cp, .int .i64 dl, .bool false] 25)).alloc (by simp) (.cells #[.slice none 0 0, .int .i64 0, .int .i64 0] 29)
  have HD0 := hD.out.keep (Keeps.of HB0)
  go_wp2_with fail
  refine (dCheck_at hc HD0 hdl.out hds.out).mono ?_
  rintro e w1 ⟨rfl, hb⟩
  have X := ((Box.new w [.slice As ns cs, .slice Ap 0 cp, .int .i64 dl, .bool false] 25).alloc (.cells #[.slice none 0 0, .int .i64 0, .int .i64 0] 29)).later hb
  have R := (Box.newAt (w := w.alloc (.cells #[.slice As ns cs, .slice Ap 0 cp, .int .i64 dl, .bool false] 25)) (n := w.heap.size + 1) [.slice none 0 0, .int .i64 0, .int .i64 0] 29 (by simp)).later hb
  have hB := HB0.trans (hb.mono HB0.size)
  clear hb HB0 HD0
  obtain ⟨x0, x1⟩ := X.c2
  have x3 : w1.cell? ⟨w.heap.size, 3, none⟩ = some (.bool false) := X.cell 3
  have r1 : w1.cell? ⟨w.heap.size + 1, 1, none⟩ = some (.int .i64 0) := R.cell 1
  have f1 := R.free 1
  have rz := R.lt
  have xz := X.lt
  go_wp2_with fail
  have X := X.other (a := ⟨w.heap.size + 1, 1, none⟩) (by simp) (.int .i64 (ns : Int))
  have R := R.set 1 (.int .i64 (ns : Int))
  have hB := hB.setCell (p := ⟨w.heap.size + 1, 1, none⟩) (by simp) (.int .i64 (ns : Int))
  clear x0 x1 x3 r1 f1 rz xz
  generalize w1.setCell ⟨w.heap.size + 1, 1, none⟩ (.int .i64 (ns : Int)) = w2 at X R hB ⊢
  simp only [List.set_cons_zero, List.set_cons_succ] at R
  have hDz := R.lt
  refine (jRecords_any _ _ _ _).mono ?_
  rintro e W0 ⟨rfl, P0, hb⟩
  have R := R.later hb
  have hB := hB.trans (hb.mono hB.size)
  clear hb X
  generalize w2.heap.size = D0 at *
  go_wp2_with fail
  refine wpIn_wide.1 (wp_rangeFunc_told (n := 6) (gf := 60) (lb := #[.pointer (some ⟨D0, 0, none⟩)]) rfl (enters_of Try.func60 (by kernel_rfl) rfl)
    (fun xs => xs = recordsT d.sectors) ToldR (fun b => (S b ∧ b < w.heap.size) ∨ b = D0) ?hSd ?hTs ?hTp ?hseq (OpenI w (w.heap.size + 1) (W0.heap.size + 2) (ns : Int)) ?hI ?hIp ?h0 ?round ?done)
  case hSd =>
    rintro b (⟨_, h⟩ | rfl)
    · exact Nat.lt_of_lt_of_le h hB.size
    · exact P0.lt
  case hTs =>
    rintro pre x vs wo W ⟨k, A, n, c, rfl, _⟩
    rfl
  case hTp =>
    rintro pre x vs wo W Q o hQ ⟨k, A, n, c, rfl, hbs, h1, h2⟩
    refine ⟨k, A, n, c, rfl, (hbs.keep (keeps_put (Keeps.refl _ _) (by omega) o)).weak (fun b h _ => ?_), h1, h2⟩
    simpa using h
  case hseq =>
    intro l J W hW hJ hY h0
    have hBW := hB.trans (hW.mono hB.size)
    refine (rec_iter 5 l d.sectors As ns cs D0 (fun b => (S b ∧ b < w.heap.size) ∨ b = D0) W (Lib.hid ((hD.out.sectors.weak (fun b hS hl => .inl ⟨hS, hl⟩)).keep (Keeps.of hBW))) hns hns2 h128 (P0.later hW) (.inr rfl)
      (Lib.hid ?_) J (Lib.hid hJ) (Lib.hid ?_) h0).mono (fun e W' h => ⟨h.1, _, rfl, h.2⟩)
    · rintro b (⟨_, h⟩ | rfl)
      · exact Nat.lt_of_lt_of_le h hBW.size
      · exact Nat.lt_of_lt_of_le P0.lt hW.size
    · intro pre k V b wo W1 hJ1 hb1 hbs hl hp
      obtain ⟨A, c, rfl, _⟩ := hbs.form
      exact hY pre b _ wo W1 hJ1 hb1 ⟨k, A, _, c, rfl, hbs, hl, hp⟩
  case hI =>
    rintro pre A B ⟨V, bR, ho, hbel⟩ hb
    exact ⟨V, bR.later hb, ho.keep hb, hbel.trans (hb.mono hbel.size)⟩
  case hIp =>
    rintro pre A o hA ⟨V, bR, ho, hbel⟩
    have hW0 := hB.size
    have hP0 := P0.lt
    refine ⟨V, bR.put (by omega) o, ho.keepK (keeps_put (Keeps.refl _ _) ?_ o), below_put hbel (by omega) o⟩
    rintro ⟨h | h, _⟩
    · have := h.1; omega
    · omega
  case h0 => exact ⟨_, R, ⟨[], World.ownsRow_nil _ _ _ _, fun i x u h => by simp at h⟩, hB⟩
  case round =>
    rintro l pre x vs wo W W2 hlt ⟨V, bR, ho, hbel⟩ hb ⟨k, A, n, c, rfl, hbs, hxl, hpl⟩
    have hW0 := hB.size
    have hP0 := P0.lt
    have bR2 := bR.later hb
    have ho2 := ho.keep hb
    obtain ⟨Av, cv, rfl⟩ := ho.form
    have hUs : BsAt W2 (Side (W0.heap.size + 2) (.slice Av pre.length cv)) (.slice A n c) x := hbs.weak fun b h _ => ⟨by omega, fun e => by
      obtain ⟨xs, hx, _⟩ := ho
      have := (World.ownsRow.lt hx b e.symm).2
      omega⟩
    have bN := Box.new W2 [.slice A n c] 35
    obtain ⟨v', W3, hr, ho3, hb3⟩ := run_ownR (ho2.keep ((Below.refl _ W2).alloc (Nat.le_refl _) (.cells #[.slice A n c] 35))) bN (hUs.keep (Keeps.of ((Below.refl _ W2).alloc (Nat.le_refl _) (.cells #[.slice A n c] 35)))) (by have := hb.size; simp; omega) (by omega)
    obtain ⟨Aw, cw, hv⟩ := ho3.form
    rw [List.length_append, List.length_singleton] at hv
    subst hv
    have hb23 : Below (W0.heap.size + 2) W2 W3 := ((Below.refl _ W2).alloc (by have := hb.size; omega) _).trans hb3
    have bR3 : Box W3 (w.heap.size + 1) [.slice Av pre.length cv, .int .i64 (ns : Int), .int .i64 0] := bR2.same (hb23.block _ (by omega))
    have hEnd : ∀ a, ToldPost W0.heap.size (fun b => (S b ∧ b < w.heap.size) ∨ b = D0) (OpenI w (w.heap.size + 1) (W0.heap.size + 2) (ns : Int)) (pre ++ [x]) W2   .normal a (W3.setCell ⟨w.heap.size + 1, 0, none⟩ (.slice Aw (pre.length + 1) cw)) := by
      intro a
      refine ⟨(Below.heap_setCell W3 _ _ _ (by simp; omega)).trans (hb23.block _ (by omega)), (Below.heap_setCell W3 _ _ _ (by simp; omega)).trans (hb23.block _ (by omega)), (Keeps.from hb23 ?_).trans (Keeps.set W3 ?_ _), _, bR3.set 0 _, ho3.keepK (Keeps.set W3 ?_ _), ((hbel.trans (hb.mono hbel.size)).trans (hb23.mono (by omega))).setCell (by simp) _⟩
      · rintro b (⟨_, h⟩ | rfl) _ <;> omega
      · rintro (⟨_, h⟩ | h)
        · simp at h; omega
        · simp at h; omega
      · rintro ⟨h | h, _⟩
        · have := h.1; simp at this; omega
        · simp at h; omega
    have HEND := Lib.hid hEnd
    have r0 : W2.cell? ⟨w.heap.size + 1, 0, none⟩ = some (.slice Av pre.length cv) := bR2.cell 0
    have s1 := bR3.free 0
    have s2 : W3.cell? ⟨w.heap.size + 1, 0, none⟩ = some (.slice Av pre.length cv) := bR3.cell 0
    have s3 := bR3.lt
    have s4 := bR2.lt
    clear hEnd bR bR2 bR3 ho ho2 ho3 hb hb3 hb23 hbel hUs bN hbs
    gi_wp2_with fail
    refine ⟨trivial, ?_⟩
    gi_wp2_with fail
    exact HEND.out _
  case done =>
    rintro D1 xs W hD1 rfl ⟨V, bR, ho, hbel⟩ hK
    have hW0 := hB.size
    have hP0 := P0.lt
    obtain ⟨T, hT⟩ : ∃ T, recordsT d.sectors = T := ⟨_, rfl⟩
    have hTl : T.length ≤ 4096 := by rw [← hT]; have := records_len d.sectors; have := hns.out; omega
    rw [hT] at ho
    have HT := Lib.hid (show openT d = (⟨T, (ns : Int), (T.length : Int)⟩, 0) by
      have hp : d.pending = [] := List.eq_nil_of_length_eq_zero hnp.out
      rw [openT, hT, hc.out, hds.out, hp, hns.out]; rfl)
    clear hT
    obtain ⟨Av, cv, rfl⟩ := ho.form
    obtain ⟨n, hn⟩ : ∃ n, T.length = n := ⟨_, rfl⟩
    rw [hn] at ho bR hTl HT
    have HN := Lib.hid hn
    clear hn
    have hlt := bR.lt
    obtain ⟨r0, r1, r2⟩ := bR.c3
    have f0 := bR.free 0
    have f1 := bR.free 1
    have f2 := bR.free 2
    go_wp2
    clear r0 r1 r2 f0 f1 f2
    have hR4 : ∀ (W : World) (o : Nat) (u : Value), Keeps (Old (fun b => Side (W0.heap.size + 2) (.slice Av n cv) b ∨ W0.heap.size + 2 ≤ b) W) W (W.setCell ⟨w.heap.size + 1, o, none⟩ u) := fun W o u => Keeps.set W (by
      rintro ⟨h | h, _⟩
      · have := h.1; simp at this; omega
      · simp at h; omega) u
    have bR := (((bR.set 2 (.int .i64 (n : Int))).set 0 (.slice Av n cv)).set 1 (.int .i64 (ns : Int))).set 2 (.int .i64 (n : Int))
    have ho := (((ho.keepK (hR4 _ 2 (.int .i64 (n : Int)))).keepK (hR4 _ 0 (.slice Av n cv))).keepK (hR4 _ 1 (.int .i64 (ns : Int)))).keepK (hR4 _ 2 (.int .i64 (n : Int)))
    have hbel := (((hbel.setCell (p := ⟨w.heap.size + 1, 2, none⟩) (by simp) (.int .i64 (n : Int))).setCell (p := ⟨w.heap.size + 1, 0, none⟩) (by simp) (.slice Av n cv)).setCell (p := ⟨w.heap.size + 1, 1, none⟩) (by simp) (.int .i64 (ns : Int))).setCell (p := ⟨w.heap.size + 1, 2, none⟩) (by simp) (.int .i64 (n : Int))
    have hR5 : ∀ (W : World) (o : Nat) (u : Value), W.heap[D1]? = some (.deferred (some [])) → (W.setCell ⟨w.heap.size + 1, o, none⟩ u).heap[D1]? = some (.deferred (some [])) := fun W o u h => (Below.heap_setCell W _ u D1 (by simp; omega)).trans h
    have hKf := hR5 _ 2 (.int .i64 (n : Int)) (hR5 _ 1 (.int .i64 (ns : Int)) (hR5 _ 0 (.slice Av n cv) (hR5 _ 2 (.int .i64 (n : Int)) hK)))
    generalize (((W.setCell ⟨w.heap.size + 1, 2, none⟩ (.int .i64 (n : Int))).setCell ⟨w.heap.size + 1, 0, none⟩ (.slice Av n cv)).setCell ⟨w.heap.size + 1, 1, none⟩ (.int .i64 (ns : Int))).setCell ⟨w.heap.size + 1, 2, none⟩ (.int .i64 (n : Int)) = W4 at bR ho hbel hKf ⊢
    simp only [List.set_cons_zero, List.set_cons_succ] at bR
    refine ⟨by simp, .inl ⟨_, _, rfl, run_takeDeferred hKf, ?_⟩⟩
    have hrw : RwAt W4 (Grow S w) (.slice Av n cv) T := ho.rows (by simp only [maxLen]; have := HN.out; omega) (fun b h _ => .inr (by have := h.1; omega)) (fun b h => .inr (by omega))
    have hrw := rwAt_put hrw hKf (.deferred none)
    have bR := bR.put (l := D1) (by omega) (.deferred none)
    have hbel := below_put (D := D1) hbel (by omega) (.deferred none)
    generalize W4.putObj D1 (.deferred none) = W5 at bR hrw hbel ⊢
    obtain ⟨e0, e1, e2⟩ := bR.c3
    refine ⟨_, (by simp [results, Try.results12, go_sem, e0, e1, e2] : _ = Result.ok (.tuple #[.agg #[.slice Av n cv, .int .i64 (ns : Int), .int .i64 (n : Int)], .int .i64 0]) _), ?_⟩
    exact ⟨_, _, _, ⟨T, (ns : Int), (n : Int)⟩, 0, rfl, HT, HN, Lib.hid hrw, hbel⟩
theorem jOpen_no (d : Dk) (As : Option Addr) (ns cs : Nat) (Ap : Option Addr) (np cp : Nat) (dl : Int) (ds : Bool) (ck er : Int) (S : Nat → Prop) (w : World) (hD : Hid (DkAt w S (.slice As ns cs) (.slice Ap np cp) d)) (hdl : Hid (d.left = dl)) (hds : Hid (d.stopped = ds))
    (hc : Hid (d.checkT = ck)) (hT : Hid (openT d = (Jn.zero, er))) (hw : (ck ≠ 0 ∧ er = ck) ∨ (ck = 0 ∧ ds = true ∧ er = 40) ∨ (ck = 0 ∧ ds = false ∧ 0 < np ∧ er = 1)) :
    Calls Try.prog 12 #[.agg #[.slice As ns cs, .slice Ap np cp, .int .i64 dl, .bool ds]] w (RetJn (openT d) S w) := by
  refine calls_of_wp_marks Try.func12 rfl ?_
  simp only [Try.ntmps12, List.size_toArray, List.length_cons, List.length_nil, Nat.reduceAdd, Nat.reduceSub, Array.replicate_succ, Array.replicate_zero, List.push_toArray, List.append_toArray, List.nil_append, List.cons_append]
  have HB0 := ((Below.refl w.heap.size w).alloc (Nat.le_refl _) (.cells #[.slice As ns cs, .slice Ap np cp, .int .i64 dl, .bool ds] 25)).alloc (by simp) (.cells #[.slice none 0 0, .int .i64 0, .int .i64 0] 29)
  have HD0 := hD.out.keep (Keeps.of HB0)
  go_wp2_with fail
  refine (dCheck_at hc HD0 hdl.out hds.out).mono ?_
  rintro e w1 ⟨rfl, hb⟩
  have X := ((Box.new w [.slice As ns cs, .slice Ap np cp, .int .i64 dl, .bool ds] 25).alloc (.cells #[.slice none 0 0, .int .i64 0, .int .i64 0] 29)).later hb
  have R := (Box.newAt (w := w.alloc (.cells #[.slice As ns cs, .slice Ap np cp, .int .i64 dl, .bool ds] 25)) (n := w.heap.size + 1) [.slice none 0 0, .int .i64 0, .int .i64 0] 29 (by simp)).later hb
  have hB := HB0.trans (hb.mono HB0.size)
  clear hb HB0 HD0
  obtain ⟨x0, x1⟩ := X.c2
  have x3 : w1.cell? ⟨w.heap.size, 3, none⟩ = some (.bool ds) := X.cell 3
  obtain ⟨r0, r1, r2⟩ := R.c3
  have f0 := R.free 0
  have f1 := R.free 1
  have f2 := R.free 2
  have rz := R.lt
  have xz := X.lt
  have hB2 := ((hB.setCell (p := ⟨w.heap.size + 1, 0, none⟩) (by simp) (.slice none 0 0)).setCell (p := ⟨w.heap.size + 1, 1, none⟩) (by simp) (.int .i64 0)).setCell (p := ⟨w.heap.size + 1, 2, none⟩) (by simp) (.int .i64 0)
  have R2 := ((R.set 0 (.slice none 0 0)).set 1 (.int .i64 0)).set 2 (.int .i64 0)
  clear X R hB hD hdl hds hc
  have hck : er ≠ ck ∨ er = ck := by omega
  rcases hw with ⟨h1, rfl⟩ | ⟨rfl, rfl, rfl⟩ | ⟨rfl, rfl, h1, rfl⟩
  · have e1 : (er != 0) = true := by simp; omega
    have e2 : (er == 0) = false := by simp; omega
    clear hck h1
    go_wp2
    generalize ((w1.setCell ⟨w.heap.size + 1, 0, none⟩ (.slice none 0 0)).setCell ⟨w.heap.size + 1, 1, none⟩ (.int .i64 0)).setCell ⟨w.heap.size + 1, 2, none⟩ (.int .i64 0) = W at R2 hB2 ⊢
    obtain ⟨y0, y1, y2⟩ := R2.c3
    refine ⟨_, (by simp [results, Try.results12, go_sem, y0, y1, y2] : _ = Result.ok (.tuple #[.agg #[.slice none 0 0, .int .i64 0, .int .i64 0], .int .i64 er]) _), ?_⟩
    exact ⟨none, 0, 0, Jn.zero, er, rfl, hT, rfl, Lib.hid (rwAt_nil _ _), hB2⟩
  · clear hck
    go_wp2
    generalize ((w1.setCell ⟨w.heap.size + 1, 0, none⟩ (.slice none 0 0)).setCell ⟨w.heap.size + 1, 1, none⟩ (.int .i64 0)).setCell ⟨w.heap.size + 1, 2, none⟩ (.int .i64 0) = W at R2 hB2 ⊢
    obtain ⟨y0, y1, y2⟩ := R2.c3
    refine ⟨_, (by simp [results, Try.results12, go_sem, y0, y1, y2] : _ = Result.ok (.tuple #[.agg #[.slice none 0 0, .int .i64 0, .int .i64 0], .int .i64 40]) _), ?_⟩
    exact ⟨none, 0, 0, Jn.zero, 40, rfl, hT, rfl, Lib.hid (rwAt_nil _ _), hB2⟩
  · clear hck
    go_wp2
    generalize ((w1.setCell ⟨w.heap.size + 1, 0, none⟩ (.slice none 0 0)).setCell ⟨w.heap.size + 1, 1, none⟩ (.int .i64 0)).setCell ⟨w.heap.size + 1, 2, none⟩ (.int .i64 0) = W at R2 hB2 ⊢
    obtain ⟨y0, y1, y2⟩ := R2.c3
    refine ⟨_, (by simp [results, Try.results12, go_sem, y0, y1, y2] : _ = Result.ok (.tuple #[.agg #[.slice none 0 0, .int .i64 0, .int .i64 0], .int .i64 1]) _), ?_⟩
    exact ⟨none, 0, 0, Jn.zero, 1, rfl, hT, rfl, Lib.hid (rwAt_nil _ _), hB2⟩
theorem jOpen_any (d : Dk) (Vs Vp : Value) (S : Nat → Prop) (w : World) (hD : DkAt w S Vs Vp d) : Calls Try.prog 12 #[d.v Vs Vp] w (RetJn (openT d) S w) := by
  obtain ⟨As, cs, rfl, _⟩ := hD.sectors.form
  obtain ⟨Ap, cp, rfl, _⟩ := hD.pending.form
  by_cases hc : d.checkT = 0
  · rcases hs : d.stopped with _ | _
    · by_cases hp : d.pending = []
      · have hok : d.okB = true := by
          rcases h : d.okB with _ | _
          · rw [Dk.checkT, h] at hc; exact absurd hc (by decide)
          · rfl
        obtain ⟨h1, h2, _, _, _, _, h7⟩ := okB_parts hok
        have := jOpen_go d As _ cs Ap _ cp _ _ S w (Lib.hid hD) rfl (Lib.hid hs) rfl rfl (Lib.hid hc) rfl (by rw [hp]; rfl) (Lib.hid h7) h2
        rw [Dk.v, hs]
        exact this
      · have := jOpen_no d As _ cs Ap _ cp _ _ 0 1 S w (Lib.hid hD) rfl (Lib.hid hs) (Lib.hid hc) (Lib.hid (by rw [openT, hc, hs]; simp [hp])) (.inr (.inr ⟨rfl, rfl, List.length_pos_iff.2 hp, rfl⟩))
        rw [Dk.v, hs]
        exact this
    · have := jOpen_no d As _ cs Ap _ cp _ _ 0 40 S w (Lib.hid hD) rfl (Lib.hid hs) (Lib.hid hc) (Lib.hid (by rw [openT, hc, hs]; simp)) (.inr (.inl ⟨rfl, rfl, rfl⟩))
      rw [Dk.v, hs]
      exact this
  · exact jOpen_no d As _ cs Ap _ cp _ _ d.checkT d.checkT S w (Lib.hid hD) rfl rfl rfl (Lib.hid (by rw [openT, if_pos hc])) (.inl ⟨hc, rfl⟩)
end Go.Proofs.Ythlidhfahaalgaa
namespace Go.Proofs.Ythlidhfahaalgaa
open Go.RowKit
attribute [local go_sem ↓ high] app_named cop_named
end Go.Proofs.Ythlidhfahaalgaa
namespace Go.Proofs.Ythlidhfahaalgaa
open Go.RowKit
attribute [local go_sem ↓ high] app_named cop_named
theorem OwnRw.lt {w : World} {base b : Nat} {S : Nat → Prop} {v : Value} {l : List Bs} (h : OwnRw w base S v l) (hb : some b = v.ownBlock) : b < w.heap.size := by
  obtain ⟨xs, hx, _⟩ := h
  exact (World.ownsRow.lt hx b hb.symm).2
end Go.Proofs.Ythlidhfahaalgaa
namespace Go.Proofs.Ythlidhfahaalgaa
open Go.RowKit
attribute [local go_sem ↓ high] app_named cop_named
end Go.Proofs.Ythlidhfahaalgaa
namespace Go.Proofs.Ythlidhfahaalgaa
open Go.RowKit
attribute [local go_sem ↓ high] app_named cop_named
theorem jSectors_big (A : Option Addr) (n c : Nat) (w : World) (hn : n ≤ 9223372036854775000) : Calls Try.prog 35 #[.slice A n c] w fun e w' => e = .returned (.int .i64 (secT n : Nat)) ∧ w' = w := by
  have hm : (secT n : Int) = max 1 (((n : Int) + 112 - 1) / 112) := by unfold secT; omega
  rw [hm]
  go_enter Try.func35, Try.ntmps35
  go_wp2_with fail
  go_ret
  exact ⟨rfl, rfl⟩
theorem jClip_any (l : List Bs) (A : Option Addr) (n c : Nat) (S : Nat → Prop) (w : World) (h : RwAt w S (.slice A n c) l) : Calls Try.prog 37 #[.slice A n c] w fun e w' => e = .returned (.slice A n n) ∧ Hid (RwAt w S (.slice A n n) l) ∧ w = w' := by
  obtain ⟨hf, g, ⟨A', c', hv, hm, hs⟩, hb⟩ := h
  cases hv
  have key : SlF (.slice A l.length l.length) → Hid (RwAt w S (.slice A l.length l.length) l) := fun h => ⟨h, g, ⟨A, l.length, rfl, hm, hs⟩, hb⟩
  rcases hf with h | ⟨a, n', c', h, hnc, hcm⟩
  · obtain ⟨rfl, hl, rfl⟩ : A = none ∧ l.length = 0 ∧ c = 0 := by simpa using h
    have K := key (.inl (by rw [hl]))
    clear key hs hb hm
    rw [hl] at K ⊢
    go_enter Try.func37, Try.ntmps37
    go_wp2
    go_ret
    exact ⟨rfl, K, rfl⟩
  · obtain ⟨rfl, hl, rfl⟩ : A = some a ∧ l.length = n' ∧ c = c' := by simpa using h
    have K := key (.inr ⟨a, _, _, rfl, Nat.le_refl _, by omega⟩)
    clear key hs hb hm
    unfold maxLen at hcm
    rw [hl] at K ⊢
    have h1 : (n' : Int) ≤ (c : Int) := by omega
    clear hl h hnc
    go_enter Try.func37, Try.ntmps37
    go_wp2
    go_ret
    exact ⟨rfl, K, rfl⟩
theorem jCloneB_any (l : Bs) (V : Value) (S : Nat → Prop) (w : World) (h : BsAt w S V l) (hn : l.length ≤ 1048576) : Calls Try.prog 38 #[V] w (RetOB l w) := by
  obtain ⟨hf, hs⟩ := h
  obtain ⟨A, c, rfl, hm⟩ := hs.form
  obtain ⟨i, E⟩ := elem_by
  rcases A with _ | A
  · have hl : l = [] := List.eq_nil_of_length_eq_zero (by have := hs.sl.none_zero.2; omega)
    subst hl
    have HR : Hid (RetOB [] w (.returned (.slice none 0 0)) w) := ⟨_, rfl, ownBs_nil _ _, Below.refl _ _⟩
    have he : ∀ w : World, (binOp .eql 35 (.slice none 0 c) (.slice none 0 0)).run Try.prog w = .ok (.bool true) w := fun _ => rfl
    have he2 : ∀ w : World, (binOp .eql 35 (.slice none (List.length ([] : Bs)) c) (.slice none 0 0)).run Try.prog w = .ok (.bool true) w := fun _ => rfl
    go_enter Try.func38, Try.ntmps38
    go_wp2
    go_ret
    exact HR.out
  · obtain ⟨v', w', hr, ho, hbel⟩ := run_clone E hs hf (fun k j hk _ => rfl) (by omega)
    have HR : Hid (RetOB l w (.returned v') w') := ⟨_, rfl, by unfold OwnBs; rw [← byV_flat]; exact ho, hbel⟩
    clear hf hs ho hbel
    unfold maxLen at hm
    generalize l.length = n at hr hm hn ⊢
    have he : ∀ w : World, (binOp .eql 35 (.slice (some A) n c) (.slice none 0 0)).run Try.prog w = .ok (.bool false) w := fun _ => rfl
    go_enter Try.func38, Try.ntmps38
    go_wp2
    go_ret
    exact HR.out
theorem run_clipApp {w : World} {S : Nat → Prop} {n bb : Nat} {A : Option Addr} {U : Value} {l : List Bs} {x : Bs} (h : RwAt w S (.slice A n n) l) (hX : Box w bb [U]) (hU : BsAt w S U x) (hl : n ≤ 4194304) :
    ∃ A' c' w', (appF #[22, 22] 22 #[.slice A n n, .slice (some ⟨bb, 0, none⟩) 1 1]).run Try.prog w = .ok (.slice A' (n + 1) c') w' ∧ RwAt w' (Grow S w) (.slice A' (n + 1) c') (l ++ [x]) ∧ Below w.heap.size w w' := by
  obtain ⟨i, E⟩ := elem_rw
  obtain ⟨hf, V, hs, hb⟩ := h
  have hnl : n = l.length := by
    obtain ⟨A', c', hv, _⟩ := hs.form
    cases hv; rfl
  have hx : Sl w w.heap.size 1 1 (fun _ _ => U) (.slice (some ⟨bb, 0, none⟩) 1 1) := ⟨_, _, rfl, by simp [maxLen], fun i hi => by
    obtain rfl : i = 0 := by omega
    refine ⟨bb, 0, rfl, hX.lt, fun j hj => ?_⟩
    obtain rfl : j = 0 := by omega
    exact hX.cell 0⟩
  rw [← hnl] at hs
  obtain ⟨v', w', hr, h1, h2, h3⟩ := run_app_p E 22 hs hf hx (.inr ⟨_, _, _, rfl, Nat.le_refl _, by simp [maxLen]⟩) (fun _ _ _ _ => bsAt_one hU) (.inl (by omega)) (by simp only [maxLen]; omega) (by omega)
  obtain ⟨A', c', rfl, _⟩ := h1.form
  refine ⟨A', c', w', hr, ⟨h2, fun i => if i < n then V i else U, ?_, fun j y hy => ?_⟩, h3⟩
  · rw [List.length_append, List.length_singleton, ← hnl]
    exact h1.congr fun i j _ _ => by dsimp only [cat]
  · dsimp only
    rcases Nat.lt_or_ge j l.length with hj | hj
    · rw [List.getElem?_append_left hj] at hy
      rw [if_pos (by omega)]
      exact ((hb j y hy).keep (Keeps.of h3)).weak fun b hb _ => .inl hb
    · rw [List.getElem?_append_right hj] at hy
      have h0 : j - l.length = 0 := by
        rcases Nat.eq_zero_or_pos (j - l.length) with h0 | h0
        · exact h0
        · rw [List.getElem?_eq_none (by simp; omega)] at hy; cases hy
      rw [h0] at hy
      obtain rfl : x = y := by simpa using hy
      rw [if_neg (by omega)]
      exact (hU.keep (Keeps.of h3)).weak fun b hb _ => .inl hb
theorem flat_xs {xs : List Value} {n : Nat} (h : xs.length = n) : flat n 1 (fun i _ => xs.getD i undef) = xs := by
  rw [flat_one]
  apply List.ext_getElem?
  intro j
  rw [List.getElem?_map]
  rcases Nat.lt_or_ge j n with hj | hj
  · rw [List.getElem?_range hj, Option.map_some, List.getD_eq_getElem?_getD, List.getElem?_eq_getElem (by omega)]; rfl
  · rw [List.getElem?_eq_none (by simp; omega), List.getElem?_eq_none (by omega)]; rfl
theorem run_appRows {w : World} {base : Nat} {Q : Nat → Prop} {v x : Value} {l r : List Bs} (ho : OwnRw w base Q v l) (hQ : ∀ b, Q b → b < base) (hx : RwAt w Q x r) (hbase : base ≤ w.heap.size) (hl : l.length + r.length ≤ 4194304) :
    ∃ v' w', (appF #[22, 22] 22 #[v, x]).run Try.prog w = .ok v' w' ∧ OwnRw w' base Q v' (l ++ r) ∧ Below base w w' := by
  obtain ⟨i, E⟩ := elem_rw
  obtain ⟨xs, ho, hb⟩ := ho
  obtain ⟨hxf, V, hs, hr⟩ := hx
  have hxl : xs.length = l.length := by simpa using ho.1
  have hrow : ∀ k, v.ownBlock = some k → base ≤ k := by
    intro k hk
    rcases ho.2 with ⟨rfl, _⟩ | ⟨g, cap, cur, rfl, hbg, _⟩
    · cases hk
    · cases hk; exact hbg
  have ho1 := ho
  rw [← flat_xs hxl] at ho1
  obtain ⟨v', w', hrun, ho', hg⟩ := run_app_own E 22 ho1 hs.sl hxf (fun k j hk hj => by
    exact bsAt_one (hr k _ (List.getElem?_eq_getElem hk))) (by simp only [maxLen]; omega) (by omega) hbase
  have key : ∀ {y : Bs} {u : Value}, BsAt w Q u y → BsAt w' Q u y := fun {y u} h => h.keep (Keeps.grown hg fun k hk hS => by have := hrow k hk; have := hQ k hS; omega)
  rw [flat_cat _ _ _ (by decide), flat_xs hxl, flat_one] at ho'
  refine ⟨v', w', hrun, ⟨_, by rw [List.length_append]; exact ho', fun j y u hy hu => ?_⟩, (Below.refl base w).grown hg hbase (fun k hk => hrow k hk)⟩
  rcases Nat.lt_or_ge j l.length with hj | hj
  · rw [List.getElem?_append_left hj] at hy
    rw [List.getElem?_append_left (by omega)] at hu
    exact key (hb j y u hy hu)
  · rw [List.getElem?_append_right hj] at hy
    have hjr := (List.getElem?_eq_some_iff.1 hy).1
    rw [List.getElem?_append_right (by omega), hxl, List.getElem?_map, List.getElem?_range hjr] at hu
    cases hu
    exact key (hr _ y hy)
end Go.Proofs.Ythlidhfahaalgaa
namespace Go.Proofs.Ythlidhfahaalgaa
open Go.RowKit
attribute [local go_sem ↓ high] app_named cop_named
def appendT (l : Jn) (b : Bs) : Jn × Int := if l.okB = true then (if l.many - (usedT l.records : Int) < (secT b.length : Int) then (Jn.zero, 2) else (⟨l.records ++ [b], l.many, l.synced⟩, 0)) else (Jn.zero, 1)
theorem jAppend_1 (l : Jn) (A : Option Addr) (n c : Nat) (many sync : Int) (b : Bs) (Ab : Option Addr) (nb cb : Nat) (S : Nat → Prop) (w : World) (h : Hid (RwAt w S (.slice A n c) l.records)) (hn : Hid (l.records.length = n)) (hm : Hid (l.many = many)) (hy : Hid (l.synced = sync)) (hs : Hid (sumB l.records ≤ 4194304)) (_hb : Hid (BsAt w S (.slice Ab nb cb) b)) (_hnb : Hid (b.length = nb)) (_hnb2 : nb ≤ 9223372036854775000) (hT : Hid (appendT l b = (Jn.zero, 1))) (hc : Hid (l.checkT = 1)) : Calls Try.prog 15 #[.agg #[.slice A n c, .int .i64 many, .int .i64 sync], .slice Ab nb cb] w (RetJn (appendT l b) S w) := by
  have HB0 := ((Below.refl w.heap.size w).alloc (Nat.le_refl _) (.cells #[.slice A n c, .int .i64 many, .int .i64 sync] 29)).alloc (by simp) (.cells #[.slice none 0 0, .int .i64 0, .int .i64 0] 29)
  have HC := jCheck_any l A n c many sync S ((w.alloc (.cells #[.slice A n c, .int .i64 many, .int .i64 sync] 29)).alloc (.cells #[.slice none 0 0, .int .i64 0, .int .i64 0] 29)) (Lib.hid (h.out.keep (Keeps.of HB0))) hn hm hy hs
  rw [hc.out] at HC
  go_enter Try.func15, Try.ntmps15
  go_wp2_with fail
  refine HC.mono ?_
  rintro e w1 ⟨rfl, hb1⟩
  have X := ((Box.new w [.slice A n c, .int .i64 many, .int .i64 sync] 29).alloc (.cells #[.slice none 0 0, .int .i64 0, .int .i64 0] 29)).later hb1
  have R := (Box.newAt (w := w.alloc (.cells #[.slice A n c, .int .i64 many, .int .i64 sync] 29)) (n := w.heap.size + 1) [.slice none 0 0, .int .i64 0, .int .i64 0] 29 (by simp)).later hb1
  have hB := HB0.trans (hb1.mono HB0.size)
  clear hb1 HB0 HC
  obtain ⟨x0, x1, x2⟩ := X.c3
  obtain ⟨r0, r1, r2⟩ := R.c3
  have f0 := R.free 0
  have f1 := R.free 1
  have f2 := R.free 2
  have rz := R.lt
  have xz := X.lt
  clear X hs hm hy hn h hc
  go_wp2
  have R := ((R.set 0 (.slice none 0 0)).set 1 (.int .i64 0)).set 2 (.int .i64 0)
  have hB := ((hB.setCell (p := ⟨w.heap.size + 1, 0, none⟩) (by simp) (.slice none 0 0)).setCell (p := ⟨w.heap.size + 1, 1, none⟩) (by simp) (.int .i64 0)).setCell (p := ⟨w.heap.size + 1, 2, none⟩) (by simp) (.int .i64 0)
  generalize ((w1.setCell ⟨w.heap.size + 1, 0, none⟩ (.slice none 0 0)).setCell ⟨w.heap.size + 1, 1, none⟩ (.int .i64 0)).setCell ⟨w.heap.size + 1, 2, none⟩ (.int .i64 0) = W at R hB ⊢
  obtain ⟨y0, y1, y2⟩ := R.c3
  refine bodyPost_ret (v := .tuple #[.agg #[.slice none 0 0, .int .i64 0, .int .i64 0], .int .i64 1]) (by simp [results, Try.results15, go_sem, y0, y1, y2]) rfl ?_
  exact ⟨none, 0, 0, Jn.zero, 1, rfl, hT, rfl, Lib.hid (rwAt_nil _ _), hB⟩
theorem jAppend_2 (l : Jn) (A : Option Addr) (n c : Nat) (many sync : Int) (b : Bs) (Ab : Option Addr) (nb cb : Nat) (S : Nat → Prop) (w : World) (h : Hid (RwAt w S (.slice A n c) l.records)) (hn : Hid (l.records.length = n)) (hm : Hid (l.many = many)) (hy : Hid (l.synced = sync)) (hs : Hid (sumB l.records ≤ 4194304)) (hb : Hid (BsAt w S (.slice Ab nb cb) b)) (hnb : Hid (b.length = nb)) (hnb2 : nb ≤ 9223372036854775000) (hT : Hid (appendT l b = (Jn.zero, 2))) (hc : Hid (l.checkT = 0)) (hq1 : 1 ≤ many) (hq2 : many ≤ 4096) (hlim : many - (usedT l.records : Int) < (secT nb : Int)) : Calls Try.prog 15 #[.agg #[.slice A n c, .int .i64 many, .int .i64 sync], .slice Ab nb cb] w (RetJn (appendT l b) S w) := by
  have HB0 := ((Below.refl w.heap.size w).alloc (Nat.le_refl _) (.cells #[.slice A n c, .int .i64 many, .int .i64 sync] 29)).alloc (by simp) (.cells #[.slice none 0 0, .int .i64 0, .int .i64 0] 29)
  have HC := jCheck_any l A n c many sync S ((w.alloc (.cells #[.slice A n c, .int .i64 many, .int .i64 sync] 29)).alloc (.cells #[.slice none 0 0, .int .i64 0, .int .i64 0] 29)) (Lib.hid (h.out.keep (Keeps.of HB0))) hn hm hy hs
  rw [hc.out] at HC
  go_enter Try.func15, Try.ntmps15
  go_wp2_with fail
  refine HC.mono ?_
  rintro e w1 ⟨rfl, hb1⟩
  have X := ((Box.new w [.slice A n c, .int .i64 many, .int .i64 sync] 29).alloc (.cells #[.slice none 0 0, .int .i64 0, .int .i64 0] 29)).later hb1
  have R := (Box.newAt (w := w.alloc (.cells #[.slice A n c, .int .i64 many, .int .i64 sync] 29)) (n := w.heap.size + 1) [.slice none 0 0, .int .i64 0, .int .i64 0] 29 (by simp)).later hb1
  have hB := HB0.trans (hb1.mono HB0.size)
  clear hb1 HB0 HC
  obtain ⟨x0, x1, x2⟩ := X.c3
  obtain ⟨r0, r1, r2⟩ := R.c3
  have f0 := R.free 0
  have f1 := R.free 1
  have f2 := R.free 2
  have rz := R.lt
  have xz := X.lt
  have C1 : ∀ j, Calls Try.prog 35 #[.slice Ab nb cb] (w1.drewN j) fun e w' => e = .returned (.int .i64 (secT nb : Nat)) ∧ w' = w1.drewN j := fun j => jSectors_big Ab nb cb (w1.drewN j) (by omega)
  have C2 : ∀ j, Calls Try.prog 36 #[.slice A n c] (w1.drewN j) fun e w' => e = .returned (.int .i64 (usedT l.records : Nat)) ∧ w' = w1.drewN j := fun j => by
    have := jUsed_any l.records A c S (w1.drewN j) (Lib.hid (by rw [hn.out]; exact h.out.keep (Keeps.of (below_drewN hB j)))) hs.out
    rwa [hn.out] at this
  have hu2 : usedT l.records ≤ 4194304 := by have := usedT_le l.records; have := hs.out; omega
  have hsec : secT nb ≤ 9223372036854775000 := by unfold secT; omega
  have HCL : Hid (l.records.length ≤ 4194304) := Lib.hid (by have := length_le_sumB l.records; have := hs.out; omega)
  generalize usedT l.records = u at *
  generalize secT nb = v at *
  have wr1 : IntKind.i64.wrap (many - (u : Int)) = many - (u : Int) := IntWalk.i64_in _ (by omega)
  have lt1 : decide (many - (u : Int) < (v : Int)) = true := by simp; omega
  clear hm hy hn h hc hnb hb hs HCL hlim
  go_upto_region 4 with fail
  go_quiet (first | (go_at_call 35; exact Calls.quiet_of_same (C1 _)) | (go_at_call 36; exact Calls.quiet_of_same (C2 _)))
  have hB12 := (below_drewN (Below.refl w1.heap.size w1) nq).size
  have HB12 := Lib.hid hB12
  clear hB12
  have hB := below_drewN hB nq
  have R := R.drewN nq
  have X := X.drewN nq
  generalize w1.drewN nq = w2 at hB R X HB12 ⊢
  obtain ⟨r0, r1, r2⟩ := R.c3
  have f0 := R.free 0
  have f1 := R.free 1
  have f2 := R.free 2
  have rz := R.lt
  clear X
  go_wp2
  have R := ((R.set 0 (.slice none 0 0)).set 1 (.int .i64 0)).set 2 (.int .i64 0)
  have hB := ((hB.setCell (p := ⟨w.heap.size + 1, 0, none⟩) (by simp) (.slice none 0 0)).setCell (p := ⟨w.heap.size + 1, 1, none⟩) (by simp) (.int .i64 0)).setCell (p := ⟨w.heap.size + 1, 2, none⟩) (by simp) (.int .i64 0)
  generalize ((w2.setCell ⟨w.heap.size + 1, 0, none⟩ (.slice none 0 0)).setCell ⟨w.heap.size + 1, 1, none⟩ (.int .i64 0)).setCell ⟨w.heap.size + 1, 2, none⟩ (.int .i64 0) = W at R hB ⊢
  obtain ⟨y0, y1, y2⟩ := R.c3
  refine bodyPost_ret (v := .tuple #[.agg #[.slice none 0 0, .int .i64 0, .int .i64 0], .int .i64 2]) (by simp [results, Try.results15, go_sem, y0, y1, y2]) rfl ?_
  exact ⟨none, 0, 0, Jn.zero, 2, rfl, hT, rfl, Lib.hid (rwAt_nil _ _), hB⟩
theorem jAppend_3 (l : Jn) (A : Option Addr) (n c : Nat) (many sync : Int) (b : Bs) (Ab : Option Addr) (nb cb : Nat) (S : Nat → Prop) (w : World) (h : Hid (RwAt w S (.slice A n c) l.records)) (hn : Hid (l.records.length = n)) (hm : Hid (l.many = many)) (hy : Hid (l.synced = sync)) (hs : Hid (sumB l.records ≤ 4194304)) (hb : Hid (BsAt w S (.slice Ab nb cb) b)) (hnb : Hid (b.length = nb)) (hnb2 : nb ≤ 9223372036854775000) (hT : Hid (appendT l b = (⟨l.records ++ [b], many, sync⟩, 0))) (hc : Hid (l.checkT = 0)) (hq1 : 1 ≤ many) (hq2 : many ≤ 4096) (hlim : (secT nb : Int) ≤ many - (usedT l.records : Int)) : Calls Try.prog 15 #[.agg #[.slice A n c, .int .i64 many, .int .i64 sync], .slice Ab nb cb] w (RetJn (appendT l b) S w) := by
  have HB0 := ((Below.refl w.heap.size w).alloc (Nat.le_refl _) (.cells #[.slice A n c, .int .i64 many, .int .i64 sync] 29)).alloc (by simp) (.cells #[.slice none 0 0, .int .i64 0, .int .i64 0] 29)
  have HC := jCheck_any l A n c many sync S ((w.alloc (.cells #[.slice A n c, .int .i64 many, .int .i64 sync] 29)).alloc (.cells #[.slice none 0 0, .int .i64 0, .int .i64 0] 29)) (Lib.hid (h.out.keep (Keeps.of HB0))) hn hm hy hs
  rw [hc.out] at HC
  go_enter Try.func15, Try.ntmps15
  go_wp2_with fail
  refine HC.mono ?_
  rintro e w1 ⟨rfl, hb1⟩
  have X := ((Box.new w [.slice A n c, .int .i64 many, .int .i64 sync] 29).alloc (.cells #[.slice none 0 0, .int .i64 0, .int .i64 0] 29)).later hb1
  have R := (Box.newAt (w := w.alloc (.cells #[.slice A n c, .int .i64 many, .int .i64 sync] 29)) (n := w.heap.size + 1) [.slice none 0 0, .int .i64 0, .int .i64 0] 29 (by simp)).later hb1
  have hB := HB0.trans (hb1.mono HB0.size)
  clear hb1 HB0 HC
  obtain ⟨x0, x1, x2⟩ := X.c3
  obtain ⟨r0, r1, r2⟩ := R.c3
  have f0 := R.free 0
  have f1 := R.free 1
  have f2 := R.free 2
  have rz := R.lt
  have xz := X.lt
  have C1 : ∀ j, Calls Try.prog 35 #[.slice Ab nb cb] (w1.drewN j) fun e w' => e = .returned (.int .i64 (secT nb : Nat)) ∧ w' = w1.drewN j := fun j => jSectors_big Ab nb cb (w1.drewN j) (by omega)
  have C2 : ∀ j, Calls Try.prog 36 #[.slice A n c] (w1.drewN j) fun e w' => e = .returned (.int .i64 (usedT l.records : Nat)) ∧ w' = w1.drewN j := fun j => by
    have := jUsed_any l.records A c S (w1.drewN j) (Lib.hid (by rw [hn.out]; exact h.out.keep (Keeps.of (below_drewN hB j)))) hs.out
    rwa [hn.out] at this
  have hu2 : usedT l.records ≤ 4194304 := by have := usedT_le l.records; have := hs.out; omega
  have hsec : secT nb ≤ 9223372036854775000 := by unfold secT; omega
  have HCL : Hid (l.records.length ≤ 4194304) := Lib.hid (by have := length_le_sumB l.records; have := hs.out; omega)
  have hbl : b.length ≤ 1048576 := by
    have h1 : secT nb ≤ 4096 := by omega
    rw [hnb.out]
    unfold secT at h1
    omega
  have HW1 := Lib.hid (show w.heap.size + 1 < w1.heap.size from R.lt)
  generalize usedT l.records = u at *
  generalize secT nb = v at *
  have wr1 : IntKind.i64.wrap (many - (u : Int)) = many - (u : Int) := IntWalk.i64_in _ (by omega)
  have lt1 : decide (many - (u : Int) < (v : Int)) = false := by simp; omega
  have HLIM := Lib.hid hlim
  clear hlim
  go_upto_region 4 with fail
  go_quiet (first | (go_at_call 35; exact Calls.quiet_of_same (C1 _)) | (go_at_call 36; exact Calls.quiet_of_same (C2 _)))
  have hB12 := (below_drewN (Below.refl w1.heap.size w1) nq).size
  have HB12 := Lib.hid hB12
  clear hB12
  have hB := below_drewN hB nq
  have R := R.drewN nq
  have X := X.drewN nq
  generalize w1.drewN nq = w2 at hB R X HB12 ⊢
  clear C1 C2 x0 x1 x2 r0 r1 r2 f0 f1 f2 rz xz lt1 wr1 hu2 hsec hnb2 hc
  obtain ⟨x0, x1, x2⟩ := X.c3
  have xz := X.lt
  go_wp2_with fail
  refine (jClip_any l.records A n c (fun b => S b ∧ b < w.heap.size) w2 ((h.out.weak fun b hs hl => ⟨hs, hl⟩).keep (Keeps.of hB))).mono ?_
  rintro e w3 ⟨rfl, hK, rfl⟩
  go_wp2_with fail
  refine (jCloneB_any b _ S w2 (hb.out.keep (Keeps.of hB)) hbl).mono ?_
  rintro e w3 ⟨V, rfl, ho, hb3⟩
  obtain ⟨Av, cv, rfl⟩ := ho.form'
  rw [hnb.out] at ho ⊢
  have hB3 := hB.trans (hb3.mono hB.size)
  have X := X.later hb3
  have R := R.later hb3
  have hbs : BsAt w3 (fun b => (S b ∧ b < w.heap.size) ∨ w1.heap.size ≤ b) (.slice Av nb cv) b := (ho.bs (by simp only [maxLen]; omega)).weak fun g hg _ => .inr (Nat.le_trans HB12.out hg)
  have hkr : RwAt w3 (fun b => (S b ∧ b < w.heap.size) ∨ w1.heap.size ≤ b) (.slice A n n) l.records := (hK.out.keep (Keeps.of hb3)).weak fun g hg _ => .inl hg
  have ha := (Below.refl w3.heap.size w3).alloc (Nat.le_refl _) (.cells #[.slice Av nb cv] 35)
  obtain ⟨A', c', w4, hr, hrw, hb4⟩ := run_clipApp (hkr.keep (Keeps.of ha)) (Box.new w3 [.slice Av nb cv] 35) (hbs.keep (Keeps.of ha)) (by rw [← hn.out]; exact HCL.out)
  have h3w := hB3.size
  have hB4 := (hB3.alloc hB3.size (.cells #[.slice Av nb cv] 35)).trans (hb4.mono (by simp; omega))
  have hrw := hrw.weak (S' := fun b => (S b ∧ b < w.heap.size) ∨ w1.heap.size ≤ b) fun g hg _ => by
    rcases hg with hg | hg
    · exact hg
    · exact .inr (by have := HB12.out; have := hb3.size; simp at hg; omega)
  have X := (X.alloc (.cells #[.slice Av nb cv] 35)).later hb4
  have R := (R.alloc (.cells #[.slice Av nb cv] 35)).later hb4
  obtain ⟨x0, x1, x2⟩ := X.c3
  obtain ⟨r0, r1, r2⟩ := R.c3
  have f0 := R.free 0
  have f1 := R.free 1
  have f2 := R.free 2
  have g0 := X.free 0
  have rz := R.lt
  have xz4 := X.lt
  go_wp2
  have hQ : ∀ (W : World) (a o : Nat) (u : Value), a = w.heap.size ∨ a = w.heap.size + 1 → Keeps (fun b => (S b ∧ b < w.heap.size) ∨ w1.heap.size ≤ b) W (W.setCell ⟨a, o, none⟩ u) := fun W a o u h => Keeps.set W (by have := HW1.out; simp; omega) u
  have hrw := (((hrw.keep (hQ _ w.heap.size 0 (.slice A' (n + 1) c') (.inl rfl))).keep (hQ _ (w.heap.size + 1) 0 (.slice A' (n + 1) c') (.inr rfl))).keep (hQ _ (w.heap.size + 1) 1 (.int .i64 many) (.inr rfl))).keep (hQ _ (w.heap.size + 1) 2 (.int .i64 sync) (.inr rfl))
  have R := (((R.other (a := ⟨w.heap.size, 0, none⟩) (by simp) (.slice A' (n + 1) c')).set 0 (.slice A' (n + 1) c')).set 1 (.int .i64 many)).set 2 (.int .i64 sync)
  have hB := (((hB4.setCell (p := ⟨w.heap.size, 0, none⟩) (by simp) (.slice A' (n + 1) c')).setCell (p := ⟨w.heap.size + 1, 0, none⟩) (by simp) (.slice A' (n + 1) c')).setCell (p := ⟨w.heap.size + 1, 1, none⟩) (by simp) (.int .i64 many)).setCell (p := ⟨w.heap.size + 1, 2, none⟩) (by simp) (.int .i64 sync)
  generalize (((w4.setCell ⟨w.heap.size, 0, none⟩ (.slice A' (n + 1) c')).setCell ⟨w.heap.size + 1, 0, none⟩ (.slice A' (n + 1) c')).setCell ⟨w.heap.size + 1, 1, none⟩ (.int .i64 many)).setCell ⟨w.heap.size + 1, 2, none⟩ (.int .i64 sync) = W at hrw R hB ⊢
  obtain ⟨y0, y1, y2⟩ := R.c3
  refine bodyPost_ret (v := .tuple #[.agg #[.slice A' (n + 1) c', .int .i64 many, .int .i64 sync], .int .i64 0]) (by simp [results, Try.results15, go_sem, y0, y1, y2]) rfl ?_
  exact ⟨A', n + 1, c', ⟨l.records ++ [b], many, sync⟩, 0, rfl, hT, Lib.hid (by rw [List.length_append, List.length_singleton, hn.out]), Lib.hid (hrw.weak fun g hg _ => by
    rcases hg with hg | hg
    · exact .inl hg.1
    · exact .inr (by have := HW1.out; omega)), hB⟩
theorem jAppend_any (l : Jn) (A : Option Addr) (n c : Nat) (many sync : Int) (b : Bs) (Ab : Option Addr) (nb cb : Nat) (S : Nat → Prop) (w : World) (h : Hid (RwAt w S (.slice A n c) l.records)) (hn : Hid (l.records.length = n)) (hm : Hid (l.many = many)) (hy : Hid (l.synced = sync)) (hs : Hid (sumB l.records ≤ 4194304)) (hb : Hid (BsAt w S (.slice Ab nb cb) b)) (hnb : Hid (b.length = nb)) (hnb2 : nb ≤ 9223372036854775000) : Calls Try.prog 15 #[.agg #[.slice A n c, .int .i64 many, .int .i64 sync], .slice Ab nb cb] w (RetJn (appendT l b) S w) := by
  rcases hok : l.okB with _ | _
  · exact jAppend_1 l A n c many sync b Ab nb cb S w h hn hm hy hs hb hnb hnb2 (Lib.hid (by rw [appendT, hok]; rfl)) (Lib.hid (Jn.bad hok))
  · obtain ⟨g1, g2, _, _, g5⟩ := l.okB_iff.1 hok
    have hc := Lib.hid (Jn.good hok)
    by_cases hlim : l.many - (usedT l.records : Int) < (secT b.length : Int)
    · exact jAppend_2 l A n c many sync b Ab nb cb S w h hn hm hy hs hb hnb hnb2 (Lib.hid (by rw [appendT, if_pos hok, if_pos hlim])) hc (by rw [← hm.out]; exact g1) (by rw [← hm.out]; exact g2) (by rw [← hm.out, ← hnb.out]; exact hlim)
    · exact jAppend_3 l A n c many sync b Ab nb cb S w h hn hm hy hs hb hnb hnb2 (Lib.hid (by rw [appendT, if_pos hok, if_neg hlim, hm.out, hy.out])) hc (by rw [← hm.out]; exact g1) (by rw [← hm.out]; exact g2) (by rw [← hm.out, ← hnb.out]; omega)
end Go.Proofs.Ythlidhfahaalgaa
namespace Go.Proofs.Ythlidhfahaalgaa
open Go.RowKit
attribute [local go_sem ↓ high] app_named cop_named
def tailT (s : Bs) : Nat := numT (s.drop 124)
def genS (n : Nat) (s : Bs) : Nat := max n (max (genT s) (tailT s))
def genM (l : List Bs) : Nat := l.foldl genS 0
theorem genM_succ {l : List Bs} {k : Nat} (hk : k < l.length) : genM (l.take (k + 1)) = max (genM (l.take k)) (max (genT l[k]) (tailT l[k])) := by
  rw [List.take_succ_eq_append_getElem hk, genM, List.foldl_append]; rfl
theorem genT_lt {s : Bs} (h : s.length = 128) : genT s < 4294967296 := numT_lt4 (by simp; omega)
theorem tailT_lt {s : Bs} (h : s.length = 128) : tailT s < 4294967296 := numT_lt4 (by simp; omega)
theorem genM_lt {l : List Bs} (h : ∀ s ∈ l, s.length = 128) : genM l < 4294967296 := by
  suffices H : ∀ n, n < 4294967296 → l.foldl genS n < 4294967296 from H 0 (by decide)
  induction l with
  | nil => intro n hn; exact hn
  | cons s l ih =>
    intro n hn
    have h1 := h s List.mem_cons_self
    have h2 := genT_lt h1
    have h3 := tailT_lt h1
    exact ih (fun s hs => h s (List.mem_cons_of_mem _ hs)) _ (by unfold genS; omega)
theorem getTail_at {s : Bs} {b o c g : Nat} {S : Nat → Prop} {w : World} (h : BsAt w S (.slice (some ⟨b, o, none⟩) 128 c) s) (hs : s.length = 128) (hc : 128 ≤ c ∧ c ≤ maxLen) (hg : tailT s = g) (x : Later w) :
    Calls Try.prog 41 #[.slice (some ⟨b, o + 124, none⟩) 4 (c - 124)] x.w fun e w' => e = .returned (.int .u64 (g : Nat)) ∧ x.w = w' :=
  (jGet_at (l := s.drop 124) (n := 4) (S := S) (by have := (h.keep (Keeps.of x.below)).sub 124 4 (c - 124) (by omega) (by omega) (by have := hc.2; omega) hs; rwa [List.take_of_length_le (by simp; omega)] at this) (by simp; omega) (by omega) hg).mono fun _ _ h => ⟨h.1, h.2.symm⟩
theorem eq_step {a b : List Bs} {n k : Nat} (ha : a.length = n) (hb : b.length = n) (hk : k < n) (hp : a.take k = b.take k) : (decide (a.getD k [] = b.getD k []) = true → a.take (k + 1) = b.take (k + 1)) ∧ (decide (a.getD k [] = b.getD k []) = false → decide (a = b) = false) := by
  constructor
  · intro h
    have h := of_decide_eq_true h
    rw [List.getD_eq_getElem?_getD, List.getD_eq_getElem?_getD, List.getElem?_eq_getElem (by omega), List.getElem?_eq_getElem (by omega)] at h
    rw [List.take_succ_eq_append_getElem (by omega), List.take_succ_eq_append_getElem (by omega), hp]
    exact congrArg _ (congrArg (· :: []) h)
  · intro h
    refine decide_eq_false fun e => of_decide_eq_false h (by rw [e])
theorem row_at {w : World} {S : Nat → Prop} {A : Option Addr} {n c k : Nat} {l : List Bs} (h : RwAt w S (.slice A n c) l) (hk : k < l.length) :
    ∃ b off Ar nr cr, A = some ⟨b, off, none⟩ ∧ b < w.heap.size ∧ w.cell? ⟨b, off + k, none⟩ = some (.slice Ar nr cr) ∧ BsAt w S (.slice Ar nr cr) (l.getD k []) := by
  obtain ⟨b, off, V, e, _, hz, hc, hb⟩ := h.row hk
  obtain ⟨Ar, cr, rfl, _⟩ := hb.form
  refine ⟨b, off, Ar, _, cr, e, hz, hc, ?_⟩
  rw [List.getD_eq_getElem?_getD, List.getElem?_eq_getElem hk]
  exact hb
theorem jEqualF_any (a b : List Bs) (A B : Option Addr) (n c m d : Nat) (S T : Nat → Prop) (w : World) (ha : Hid (RwAt w S (.slice A n c) a)) (hb : Hid (RwAt w T (.slice B m d) b)) (hn : Hid (a.length = n)) (hm : Hid (b.length = m)) (hn2 : n ≤ 9223372036854775807) (hm2 : m ≤ 9223372036854775807) (r : Bool) (hr : Hid (decide (a = b) = r)) :
    Calls Try.prog 42 #[.slice A n c, .slice B m d, .func (.func 43) #[] #[]] w fun e w' => e = .returned (.bool r) ∧ w' = w := by
  by_cases hnm : n = m
  rotate_left
  · obtain rfl : r = false := hr.out.symm.trans (decide_eq_false fun e => hnm (by rw [← hn.out, ← hm.out, e]))
    have h1 : ((n : Int) == (m : Int)) = false := by simp; omega
    have h2 : ((n : Int) != (m : Int)) = true := by simp; omega
    clear ha hb hn hm hr hnm
    go_enter Try.func42, Try.ntmps42
    go_wp2
    go_ret
    exact ⟨rfl, rfl⟩
  subst hnm
  go_enter Try.func42, Try.ntmps42
  go_wp2
  go_loopw [17] (fun i wr => ∃ k : Nat, k ≤ n ∧ i = .int .i64 k ∧ Hid (a.take k = b.take k) ∧ wr = w) (fun i _ => n - (intOf i).toNat)
  case atStart => exact ⟨0, Nat.zero_le _, rfl, rfl, rfl⟩
  case round =>
    obtain ⟨k, hk, rfl, hp, rfl⟩ := hrel
    rcases Nat.lt_or_ge k n with hlt | hge
    rotate_left
    · obtain rfl : k = n := by omega
      obtain rfl : r = true := by
        rw [← hr.out]
        have h := hp.out
        rw [List.take_of_length_le (by rw [hn.out]; exact Nat.le_refl k), List.take_of_length_le (by rw [hm.out]; exact Nat.le_refl k)] at h
        exact decide_eq_true h
      clear ha hb hn hm hr hp
      go_wp2
      go_ret
      exact ⟨rfl, rfl⟩
    obtain ⟨h1, h2⟩ := eq_step hn.out hm.out hlt hp.out
    obtain ⟨ab, ao, Ar, nr, cr, rfl, haz, hac, hab⟩ := row_at ha.out (show k < a.length by rw [hn.out]; exact hlt)
    obtain ⟨bb, bo, Br, mr, dr, rfl, hbz, hbc, hbb⟩ := row_at hb.out (show k < b.length by rw [hm.out]; exact hlt)
    obtain ⟨t, ht⟩ : ∃ t, decide (a.getD k [] = b.getD k []) = t := ⟨_, rfl⟩
    have C := jEqual_any hab hbb ht
    rw [ht] at h1 h2
    have H1 := Lib.hid h1
    have H2 := Lib.hid h2
    have i0 : (0 : Int) ≤ (k : Int) := by omega
    have i1 : (k : Int) < (n : Int) := by omega
    clear h1 h2 ht hab hbb hp
    go_wp2_with fail
    refine C.mono ?_
    rintro e w2 ⟨rfl, rfl⟩
    rcases t with _ | _
    · obtain rfl : r = false := hr.out.symm.trans (H2.out rfl)
      go_wp2
      go_ret
      exact ⟨rfl, rfl⟩
    · have hp2 := Lib.hid (H1.out rfl)
      go_wp2
      exact ⟨⟨k + 1, by omega, by go_num, hp2, trivial⟩, by simp [intOf] <;> omega⟩
theorem _root_.Go.Proofs.Ythlidhfahaalgaa.Later.str0 {w : World} {S : Nat → Prop} {v : Value} {l : Bs} (h : BsAt w S v l) (x : Later w) : (convert 35 9 v).run Try.prog x.w = .ok (.string (strB l)) x.w := (h.keep (Keeps.of x.below)).str
theorem jRSameRecs_any (a b : List Bs) (A B : Option Addr) (n c m d : Nat) (S T : Nat → Prop) (w : World) (ha : Hid (RwAt w S (.slice A n c) a)) (hb : Hid (RwAt w T (.slice B m d) b)) (hn : Hid (a.length = n)) (hm : Hid (b.length = m)) (hn2 : n ≤ 9223372036854775807) (hm2 : m ≤ 9223372036854775807) (r : Bool) (hr : Hid (decide (a = b) = r)) :
    Calls Try.prog 24 #[.slice A n c, .slice B m d] w fun e w' => e = .returned (.bool r) ∧ Below w.heap.size w w' := by
  by_cases hnm : n = m
  rotate_left
  · obtain rfl : r = false := hr.out.symm.trans (decide_eq_false fun e => hnm (by rw [← hn.out, ← hm.out, e]))
    have h1 : ((n : Int) == (m : Int)) = false := by simp; omega
    have h2 : ((n : Int) != (m : Int)) = true := by simp; omega
    clear ha hb hn hm hr hnm
    go_enter Try.func24, Try.ntmps24
    go_wp2
    go_ret
    exact ⟨rfl, Below.refl _ _⟩
  subst hnm
  go_enter Try.func24, Try.ntmps24
  go_wp2
  go_loopw [5] (fun i wr => ∃ k : Nat, k ≤ n ∧ i = .int .i64 k ∧ Hid (a.take k = b.take k) ∧ Below w.heap.size w wr) (fun i _ => n - (intOf i).toNat)
  case atStart => exact ⟨0, Nat.zero_le _, rfl, rfl, Below.refl _ _⟩
  case round =>
    obtain ⟨k, hk, rfl, hp, hBi⟩ := hrel
    rcases Nat.lt_or_ge k n with hlt | hge
    rotate_left
    · obtain rfl : k = n := by omega
      obtain rfl : r = true := by
        rw [← hr.out]
        have h := hp.out
        rw [List.take_of_length_le (by rw [hn.out]; exact Nat.le_refl k), List.take_of_length_le (by rw [hm.out]; exact Nat.le_refl k)] at h
        exact decide_eq_true h
      clear ha hb hn hm hr hp
      go_wp2
      go_ret
      exact ⟨rfl, hBi⟩
    obtain ⟨h1, h2⟩ := eq_step hn.out hm.out hlt hp.out
    obtain ⟨ab, ao, Ar, nr, cr, rfl, haz, hac, hab⟩ := row_at (ha.out.keep (Keeps.of hBi)) (show k < a.length by rw [hn.out]; exact hlt)
    obtain ⟨bb, bo, Br, mr, dr, rfl, hbz, hbc, hbb⟩ := row_at (hb.out.keep (Keeps.of hBi)) (show k < b.length by rw [hm.out]; exact hlt)
    obtain ⟨t, ht⟩ : ∃ t, decide (a.getD k [] = b.getD k []) = t := ⟨_, rfl⟩
    obtain ⟨s1, s2, s3⟩ := str_cmp ht
    have cv := Later.str0 hab
    have cu := Later.str0 hbb
    generalize strB (a.getD k []) = sa at s1 s2 s3 cv
    generalize strB (b.getD k []) = sb at s1 s2 s3 cu
    have J1 := Later.cell hac haz
    have J2 := Later.cell hbc hbz
    rw [ht] at h1 h2
    have H1 := Lib.hid h1
    have H2 := Lib.hid h2
    have i0 : (0 : Int) ≤ (k : Int) := by omega
    have i1 : (k : Int) < (n : Int) := by omega
    clear h1 h2 ht hab hbb hp
    go_wp2_with fail
    refine wp_region_later (by kernel_rfl) (by kernel_rfl) ?_
    repeat (go_big_quiet_step (fail))
    refine wpQuiet_nil ?_
    intro _ hw'
    obtain ⟨yq, hw''⟩ := hw'
    subst hw''
    rcases t with _ | _
    · obtain rfl : r = false := hr.out.symm.trans (H2.out rfl)
      go_wp2
      go_ret
      exact ⟨rfl, hBi.trans (yq.below.mono hBi.size)⟩
    · have hp2 := Lib.hid (H1.out rfl)
      go_wp2
      exact ⟨⟨k + 1, by omega, by go_num, hp2, hBi.trans (yq.below.mono hBi.size)⟩, by simp [intOf] <;> omega⟩
end Go.Proofs.Ythlidhfahaalgaa
namespace Go.Proofs.Ythlidhfahaalgaa
open Go.RowKit
attribute [local go_sem ↓ high] app_named cop_named
end Go.Proofs.Ythlidhfahaalgaa
