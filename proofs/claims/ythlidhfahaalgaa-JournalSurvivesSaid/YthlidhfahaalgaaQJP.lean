/-
  Open of chapter 5: what it comes to, and its walk over the iterator. The disk's slices are small.
-/
import Derived.Test.YthlidhfahaalgaaQKE
import Derived.Test.YthlidhfahaalgaaQDX
import Derived.Deep.CutBlock
import Derived.Deep.LoopGhost
import Derived.Test.YthlidhfahaalgaaQDM
import Derived.Lib.MinMax
namespace Go.Proofs.Ythlidhfahaalgaa
open Go.RowKit Go.Shelf
attribute [local go_sem] Oper.semAt_some
attribute [local go_sem ↓ high] app_named cop_named

def Jn.zero : Jn := ⟨[], 0, 0⟩
def openT (d : Dk) : Jn × Int := if d.checkT ≠ 0 then (Jn.zero, d.checkT) else if d.stopped = true then (Jn.zero, 40) else if d.pending ≠ [] then (Jn.zero, 1) else (⟨recordsT d.sectors, (d.sectors.length : Int), ((recordsT d.sectors).length : Int)⟩, 0)
def RetJn (t : Jn × Int) (S : Nat → Prop) (w : World) (e : Ending) (w' : World) : Prop := ∃ (A : Option Addr) (n c : Nat) (m : Jn) (er : Int), e = .returned (.tuple #[.agg #[.slice A n c, .int .i64 m.many, .int .i64 m.synced], .int .i64 er]) ∧ Hid (t = (m, er)) ∧ Hid (m.records.length = n) ∧ Hid (RwAt w' (Grow S w) (.slice A n c) m.records) ∧ Below w.heap.size w w'
theorem recs_len (f k last : Nat) (l : List Bs) : (recsT f k last l).length ≤ l.length := by
  induction f generalizing k last l with
  | zero => simp [recsT]
  | succ f ih =>
    unfold recsT
    rcases l with _ | ⟨s, r⟩
    · simp
    · dsimp only
      cases hr : recGo (genT s) k true (s :: r) with
      | none => simp
      | some x =>
        obtain ⟨b, n⟩ := x
        have hp := recGo_pos hr
        dsimp only
        split
        · simp
        · have := ih (k + n) (genT s) ((s :: r).drop n)
          rw [List.length_drop] at this
          rw [List.length_cons]
          omega
theorem records_len (l : List Bs) : (recordsT l).length ≤ l.length := recs_len _ _ _ _
theorem jRecords_any (A : Option Addr) (k c : Nat) (w : World) : Calls Try.prog 32 #[.slice A k c] w fun e w' =>
    e = .returned (.func (.func 60) #[] #[.pointer (some ⟨w.heap.size, 0, none⟩)]) ∧ Box w' w.heap.size [.slice A k c] ∧ Below w.heap.size w w' := by
  have hmf : ∀ (fn : Fn) (first cap : Array Value) (w : World), (Instr.makeFunc fn first cap).run Try.prog w = .ok (.func fn first cap) w := fun _ _ _ _ => rfl
  go_enter Try.func32, Try.ntmps32
  go_wp2
  have X0 := Box.new w [.slice A k c] 22
  go_ret
  exact ⟨rfl, X0, (Below.refl _ _).alloc (Nat.le_refl _) _⟩
theorem slP_put {w : World} {S : Nat → Prop} {size n D : Nat} {g : Nat → Nat → Value} {v : Value} {x : Option (List Deferred)} (h : SlP w S size n g v) (hs : 0 < size) (hD : w.heap[D]? = some (.deferred x)) (o : Obj) : SlP (w.putObj D o) S size n g v := by
  obtain ⟨A, c, hv, hm, h1⟩ := h
  refine ⟨A, c, hv, hm, fun i hi => ?_⟩
  obtain ⟨b, off, ha, hb, hl, h3⟩ := h1 i hi
  have hne : b ≠ D := by
    rintro rfl
    have := h3 0 hs
    rw [World.cell?] at this
    simp [hD] at this
  exact ⟨b, off, ha, hb, by simpa using hl, fun j hj => by rw [World.cell?_of_block (w := w) (World.putObj_heap_other hne)]; exact h3 j hj⟩
theorem rwAt_put {w : World} {S : Nat → Prop} {D : Nat} {v : Value} {l : List Bs} {x : Option (List Deferred)} (h : RwAt w S v l) (hD : w.heap[D]? = some (.deferred x)) (o : Obj) : RwAt (w.putObj D o) S v l := by
  obtain ⟨h0, V, h1, h2⟩ := h
  exact ⟨h0, V, slP_put h1 (by decide) hD o, fun i y hy => ⟨(h2 i y hy).1, slP_put (h2 i y hy).2 (by decide) hD o⟩⟩
/-- What the iterator tells of a record. -/
def ToldR (pre : List Bs) (b : Bs) (vs : Array Value) (wo W : World) : Prop := ∃ (k : Int) (A : Option Addr) (n c : Nat), vs = #[.int .i64 k, .slice A n c] ∧ BsAt W (fun g => wo.heap.size ≤ g) (.slice A n c) b ∧ b.length ≤ 458752 ∧ pre.length < 4096
/-- What holds in the loop of Open. -/
def OpenI (w : World) (R base : Nat) (many : Int) (pre : List Bs) (W : World) : Prop := ∃ V, Box W R [V, .int .i64 many, .int .i64 0] ∧ OwnRw W base (Side base V) V pre ∧ Below w.heap.size w W

set_option maxRecDepth 100000 in
set_option maxHeartbeats 8000000 in
theorem jOpen_go (d : Dk) (As : Option Addr) (ns cs : Nat) (Ap : Option Addr) (np cp : Nat) (dl : Int) (ds : Bool) (S : Nat → Prop) (w : World) (hD : Hid (DkAt w S (.slice As ns cs) (.slice Ap np cp) d)) (hdl : Hid (d.left = dl)) (hds : Hid (d.stopped = ds)) (hns : Hid (d.sectors.length = ns)) (hnp : Hid (d.pending.length = np))
    (hc : Hid (d.checkT = 0)) (hst : ds = false) (hpn : np = 0) (h128 : Hid (∀ s ∈ d.sectors, s.length = 128)) (hns2 : ns ≤ 4096) :
    Calls Try.prog 12 #[.agg #[.slice As ns cs, .slice Ap np cp, .int .i64 dl, .bool ds]] w (RetJn (openT d) S w) := by
  subst hst hpn
  refine calls_of_wp_marks Try.func12 rfl ?_
  simp only [Try.ntmps12, List.size_toArray, List.length_cons, List.length_nil, Nat.reduceAdd, Nat.reduceSub, Array.replicate_succ, Array.replicate_zero, List.push_toArray, List.append_toArray, List.nil_append, List.cons_append]
  have HB0 := ((Below.refl w.heap.size w).alloc (Nat.le_refl _) (.cells #[.slice As ns cs, .slice Ap 0 cp, .int .i64 dl, .bool false] 25)).alloc (by simp) (.cells #[.slice none 0 0, .int .i64 0, .int .i64 0] 29)
  have HD0 := hD.out.keep (Keeps.of HB0)
  go_wp2_with fail
  refine (dCheck_at hc HD0 hdl.out hds.out).mono ?_
  rintro e w1 ⟨rfl, hb⟩
  have X := ((Box.new w [.slice As ns cs, .slice Ap 0 cp, .int .i64 dl, .bool false] 25).alloc (.cells #[.slice none 0 0, .int .i64 0, .int .i64 0] 29)).later hb
  have R := (Box.newAt (w := w.alloc (.cells #[.slice As ns cs, .slice Ap 0 cp, .int .i64 dl, .bool false] 25)) (n := w.heap.size + 1) [.slice none 0 0, .int .i64 0, .int .i64 0] 29 (by simp)).later hb
  have hB := HB0.trans (hb.mono HB0.size)
  clear hb HB0 HD0
  have x0 : w1.cell? ⟨w.heap.size, 0, none⟩ = some (.slice As ns cs) := X.cell 0
  have x1 : w1.cell? ⟨w.heap.size, 1, none⟩ = some (.slice Ap 0 cp) := X.cell 1
  have x3 : w1.cell? ⟨w.heap.size, 3, none⟩ = some (.bool false) := X.cell 3
  have r1 : w1.cell? ⟨w.heap.size + 1, 1, none⟩ = some (.int .i64 0) := R.cell 1
  have f1 := R.free 1
  have rz := R.lt
  have xz := X.lt
  go_wp2_with fail
  have X := X.other (a := ⟨w.heap.size + 1, 1, none⟩) (by simp) (.int .i64 (ns : Int))
  have R := R.set 1 (.int .i64 (ns : Int))
  have hB := hB.setCell (p := ⟨w.heap.size + 1, 1, none⟩) (by simp) (.int .i64 (ns : Int))
  clear x0 x1 x3 r1 f1 rz xz
  generalize w1.setCell ⟨w.heap.size + 1, 1, none⟩ (.int .i64 (ns : Int)) = w2 at X R hB ⊢
  simp only [List.set_cons_zero, List.set_cons_succ] at R
  have hDz := R.lt
  refine (jRecords_any _ _ _ _).mono ?_
  rintro e W0 ⟨rfl, P0, hb⟩
  have R := R.later hb
  have hB := hB.trans (hb.mono hB.size)
  clear hb X
  generalize w2.heap.size = D0 at *
  go_wp2_with fail
  refine wpIn_wide.1 (wp_rangeFunc_told (n := 6) (gf := 60) (lb := #[.pointer (some ⟨D0, 0, none⟩)]) rfl (enters_of Try.func60 (by kernel_rfl) rfl)
    (fun xs => xs = recordsT d.sectors) ToldR (fun b => (S b ∧ b < w.heap.size) ∨ b = D0) ?hSd ?hTs ?hTp ?hseq (OpenI w (w.heap.size + 1) (W0.heap.size + 2) (ns : Int)) ?hI ?hIp ?h0 ?round ?done)
  case hSd =>
    rintro b (⟨_, h⟩ | rfl)
    · exact Nat.lt_of_lt_of_le h hB.size
    · exact P0.lt
  case hTs =>
    rintro pre x vs wo W ⟨k, A, n, c, rfl, _⟩
    rfl
  case hTp =>
    rintro pre x vs wo W Q o hQ ⟨k, A, n, c, rfl, hbs, h1, h2⟩
    refine ⟨k, A, n, c, rfl, (hbs.keep (keeps_put (Keeps.refl _ _) (by omega) o)).weak (fun b h _ => ?_), h1, h2⟩
    simpa using h
  case hseq =>
    intro l J W hW hJ hY h0
    have hBW := hB.trans (hW.mono hB.size)
    refine (rec_iter 5 l d.sectors As ns cs D0 (fun b => (S b ∧ b < w.heap.size) ∨ b = D0) W (Lib.hid ((hD.out.sectors.weak (fun b hS hl => .inl ⟨hS, hl⟩)).keep (Keeps.of hBW))) hns hns2 h128 (P0.later hW) (.inr rfl)
      (Lib.hid ?_) J (Lib.hid hJ) (Lib.hid ?_) h0).mono (fun e W' h => ⟨h.1, _, rfl, h.2⟩)
    · rintro b (⟨_, h⟩ | rfl)
      · exact Nat.lt_of_lt_of_le h hBW.size
      · exact Nat.lt_of_lt_of_le P0.lt hW.size
    · intro pre k V b wo W1 hJ1 hb1 hbs hl hp
      obtain ⟨A, c, rfl, _⟩ := hbs.form
      exact hY pre b _ wo W1 hJ1 hb1 ⟨k, A, _, c, rfl, hbs, hl, hp⟩
  case hI =>
    rintro pre A B ⟨V, bR, ho, hbel⟩ hb
    exact ⟨V, bR.later hb, ho.keep hb, hbel.trans (hb.mono hbel.size)⟩
  case hIp =>
    rintro pre A o hA ⟨V, bR, ho, hbel⟩
    have hW0 := hB.size
    have hP0 := P0.lt
    refine ⟨V, bR.put (by omega) o, ho.keepK (keeps_put (Keeps.refl _ _) ?_ o), below_put hbel (by omega) o⟩
    rintro ⟨h | h, _⟩
    · have := h.1; omega
    · omega
  case h0 => exact ⟨_, R, ⟨[], World.ownsRow_nil _ _ _ _, fun i x u h => by simp at h⟩, hB⟩
  case round =>
    rintro l pre x vs wo W W2 hlt ⟨V, bR, ho, hbel⟩ hb ⟨k, A, n, c, rfl, hbs, hxl, hpl⟩
    have hW0 := hB.size
    have hP0 := P0.lt
    have bR2 := bR.later hb
    have ho2 := ho.keep hb
    obtain ⟨Av, cv, rfl⟩ := ho.form
    have hUs : BsAt W2 (Side (W0.heap.size + 2) (.slice Av pre.length cv)) (.slice A n c) x := hbs.weak fun b h _ => ⟨by omega, fun e => by
      obtain ⟨xs, hx, _⟩ := ho
      have := (World.ownsRow.lt hx b e.symm).2
      omega⟩
    have bN := Box.new W2 [.slice A n c] 35
    obtain ⟨v', W3, hr, ho3, hb3⟩ := run_ownR (ho2.keep ((Below.refl _ W2).alloc (Nat.le_refl _) (.cells #[.slice A n c] 35))) bN (hUs.keep (Keeps.of ((Below.refl _ W2).alloc (Nat.le_refl _) (.cells #[.slice A n c] 35)))) (by have := hb.size; simp; omega) (by omega)
    obtain ⟨Aw, cw, hv⟩ := ho3.form
    rw [List.length_append, List.length_singleton] at hv
    subst hv
    have hb23 : Below (W0.heap.size + 2) W2 W3 := ((Below.refl _ W2).alloc (by have := hb.size; omega) _).trans hb3
    have bR3 : Box W3 (w.heap.size + 1) [.slice Av pre.length cv, .int .i64 (ns : Int), .int .i64 0] := bR2.same (hb23.block _ (by omega))
    have hEnd : ∀ a, ToldPost W0.heap.size (fun b => (S b ∧ b < w.heap.size) ∨ b = D0) (OpenI w (w.heap.size + 1) (W0.heap.size + 2) (ns : Int)) (pre ++ [x]) W2   .normal a (W3.setCell ⟨w.heap.size + 1, 0, none⟩ (.slice Aw (pre.length + 1) cw)) := by
      intro a
      refine ⟨(Below.heap_setCell W3 _ _ _ (by simp; omega)).trans (hb23.block _ (by omega)), (Below.heap_setCell W3 _ _ _ (by simp; omega)).trans (hb23.block _ (by omega)), (Keeps.from hb23 ?_).trans (Keeps.set W3 ?_ _), _, bR3.set 0 _, ho3.keepK (Keeps.set W3 ?_ _), ((hbel.trans (hb.mono hbel.size)).trans (hb23.mono (by omega))).setCell (by simp) _⟩
      · rintro b (⟨_, h⟩ | rfl) _ <;> omega
      · rintro (⟨_, h⟩ | h)
        · simp at h; omega
        · simp at h; omega
      · rintro ⟨h | h, _⟩
        · have := h.1; simp at this; omega
        · simp at h; omega
    have HEND := Lib.hid hEnd
    have r0 : W2.cell? ⟨w.heap.size + 1, 0, none⟩ = some (.slice Av pre.length cv) := bR2.cell 0
    have s1 := bR3.free 0
    have s2 : W3.cell? ⟨w.heap.size + 1, 0, none⟩ = some (.slice Av pre.length cv) := bR3.cell 0
    have s3 := bR3.lt
    have s4 := bR2.lt
    clear hEnd bR bR2 bR3 ho ho2 ho3 hb hb3 hb23 hbel hUs bN hbs
    gi_wp2_with fail
    refine ⟨trivial, ?_⟩
    gi_wp2_with fail
    exact HEND.out _
  case done =>
    rintro D1 xs W hD1 rfl ⟨V, bR, ho, hbel⟩ hK
    have hW0 := hB.size
    have hP0 := P0.lt
    obtain ⟨T, hT⟩ : ∃ T, recordsT d.sectors = T := ⟨_, rfl⟩
    have hTl : T.length ≤ 4096 := by rw [← hT]; have := records_len d.sectors; have := hns.out; omega
    rw [hT] at ho
    have HT := Lib.hid (show openT d = (⟨T, (ns : Int), (T.length : Int)⟩, 0) by
      have hp : d.pending = [] := List.eq_nil_of_length_eq_zero hnp.out
      rw [openT, hT, hc.out, hds.out, hp, hns.out]; rfl)
    clear hT
    obtain ⟨Av, cv, rfl⟩ := ho.form
    obtain ⟨n, hn⟩ : ∃ n, T.length = n := ⟨_, rfl⟩
    rw [hn] at ho bR hTl HT
    have HN := Lib.hid hn
    clear hn
    have hlt := bR.lt
    have r0 : W.cell? ⟨w.heap.size + 1, 0, none⟩ = some (.slice Av n cv) := bR.cell 0
    have r1 : W.cell? ⟨w.heap.size + 1, 1, none⟩ = some (.int .i64 (ns : Int)) := bR.cell 1
    have r2 : W.cell? ⟨w.heap.size + 1, 2, none⟩ = some (.int .i64 0) := bR.cell 2
    have f0 := bR.free 0
    have f1 := bR.free 1
    have f2 := bR.free 2
    go_wp2
    clear r0 r1 r2 f0 f1 f2
    have hR4 : ∀ (W : World) (o : Nat) (u : Value), Keeps (Old (fun b => Side (W0.heap.size + 2) (.slice Av n cv) b ∨ W0.heap.size + 2 ≤ b) W) W (W.setCell ⟨w.heap.size + 1, o, none⟩ u) := fun W o u => Keeps.set W (by
      rintro ⟨h | h, _⟩
      · have := h.1; simp at this; omega
      · simp at h; omega) u
    have bR := (((bR.set 2 (.int .i64 (n : Int))).set 0 (.slice Av n cv)).set 1 (.int .i64 (ns : Int))).set 2 (.int .i64 (n : Int))
    have ho := (((ho.keepK (hR4 _ 2 (.int .i64 (n : Int)))).keepK (hR4 _ 0 (.slice Av n cv))).keepK (hR4 _ 1 (.int .i64 (ns : Int)))).keepK (hR4 _ 2 (.int .i64 (n : Int)))
    have hbel := (((hbel.setCell (p := ⟨w.heap.size + 1, 2, none⟩) (by simp) (.int .i64 (n : Int))).setCell (p := ⟨w.heap.size + 1, 0, none⟩) (by simp) (.slice Av n cv)).setCell (p := ⟨w.heap.size + 1, 1, none⟩) (by simp) (.int .i64 (ns : Int))).setCell (p := ⟨w.heap.size + 1, 2, none⟩) (by simp) (.int .i64 (n : Int))
    have hR5 : ∀ (W : World) (o : Nat) (u : Value), W.heap[D1]? = some (.deferred (some [])) → (W.setCell ⟨w.heap.size + 1, o, none⟩ u).heap[D1]? = some (.deferred (some [])) := fun W o u h => (Below.heap_setCell W _ u D1 (by simp; omega)).trans h
    have hKf := hR5 _ 2 (.int .i64 (n : Int)) (hR5 _ 1 (.int .i64 (ns : Int)) (hR5 _ 0 (.slice Av n cv) (hR5 _ 2 (.int .i64 (n : Int)) hK)))
    generalize (((W.setCell ⟨w.heap.size + 1, 2, none⟩ (.int .i64 (n : Int))).setCell ⟨w.heap.size + 1, 0, none⟩ (.slice Av n cv)).setCell ⟨w.heap.size + 1, 1, none⟩ (.int .i64 (ns : Int))).setCell ⟨w.heap.size + 1, 2, none⟩ (.int .i64 (n : Int)) = W4 at bR ho hbel hKf ⊢
    simp only [List.set_cons_zero, List.set_cons_succ] at bR
    refine ⟨by simp, .inl ⟨_, _, rfl, run_takeDeferred hKf, ?_⟩⟩
    have hrw : RwAt W4 (Grow S w) (.slice Av n cv) T := ho.rows (by simp only [maxLen]; have := HN.out; omega) (fun b h _ => .inr (by have := h.1; omega)) (fun b h => .inr (by omega))
    have hrw := rwAt_put hrw hKf (.deferred none)
    have bR := bR.put (l := D1) (by omega) (.deferred none)
    have hbel := below_put (D := D1) hbel (by omega) (.deferred none)
    generalize W4.putObj D1 (.deferred none) = W5 at bR hrw hbel ⊢
    have e0 : W5.cell? ⟨w.heap.size + 1, 0, none⟩ = some (.slice Av n cv) := bR.cell 0
    have e1 : W5.cell? ⟨w.heap.size + 1, 1, none⟩ = some (.int .i64 (ns : Int)) := bR.cell 1
    have e2 : W5.cell? ⟨w.heap.size + 1, 2, none⟩ = some (.int .i64 (n : Int)) := bR.cell 2
    refine ⟨_, (by simp [results, Try.results12, go_sem, e0, e1, e2] : _ = Result.ok (.tuple #[.agg #[.slice Av n cv, .int .i64 (ns : Int), .int .i64 (n : Int)], .int .i64 0]) _), ?_⟩
    exact ⟨_, _, _, ⟨T, (ns : Int), (n : Int)⟩, 0, rfl, HT, HN, Lib.hid hrw, hbel⟩

set_option maxRecDepth 100000 in
set_option maxHeartbeats 4000000 in
theorem jOpen_no (d : Dk) (As : Option Addr) (ns cs : Nat) (Ap : Option Addr) (np cp : Nat) (dl : Int) (ds : Bool) (ck er : Int) (S : Nat → Prop) (w : World) (hD : Hid (DkAt w S (.slice As ns cs) (.slice Ap np cp) d)) (hdl : Hid (d.left = dl)) (hds : Hid (d.stopped = ds))
    (hc : Hid (d.checkT = ck)) (hT : Hid (openT d = (Jn.zero, er))) (hw : (ck ≠ 0 ∧ er = ck) ∨ (ck = 0 ∧ ds = true ∧ er = 40) ∨ (ck = 0 ∧ ds = false ∧ 0 < np ∧ er = 1)) :
    Calls Try.prog 12 #[.agg #[.slice As ns cs, .slice Ap np cp, .int .i64 dl, .bool ds]] w (RetJn (openT d) S w) := by
  refine calls_of_wp_marks Try.func12 rfl ?_
  simp only [Try.ntmps12, List.size_toArray, List.length_cons, List.length_nil, Nat.reduceAdd, Nat.reduceSub, Array.replicate_succ, Array.replicate_zero, List.push_toArray, List.append_toArray, List.nil_append, List.cons_append]
  have HB0 := ((Below.refl w.heap.size w).alloc (Nat.le_refl _) (.cells #[.slice As ns cs, .slice Ap np cp, .int .i64 dl, .bool ds] 25)).alloc (by simp) (.cells #[.slice none 0 0, .int .i64 0, .int .i64 0] 29)
  have HD0 := hD.out.keep (Keeps.of HB0)
  go_wp2_with fail
  refine (dCheck_at hc HD0 hdl.out hds.out).mono ?_
  rintro e w1 ⟨rfl, hb⟩
  have X := ((Box.new w [.slice As ns cs, .slice Ap np cp, .int .i64 dl, .bool ds] 25).alloc (.cells #[.slice none 0 0, .int .i64 0, .int .i64 0] 29)).later hb
  have R := (Box.newAt (w := w.alloc (.cells #[.slice As ns cs, .slice Ap np cp, .int .i64 dl, .bool ds] 25)) (n := w.heap.size + 1) [.slice none 0 0, .int .i64 0, .int .i64 0] 29 (by simp)).later hb
  have hB := HB0.trans (hb.mono HB0.size)
  clear hb HB0 HD0
  have x0 : w1.cell? ⟨w.heap.size, 0, none⟩ = some (.slice As ns cs) := X.cell 0
  have x1 : w1.cell? ⟨w.heap.size, 1, none⟩ = some (.slice Ap np cp) := X.cell 1
  have x3 : w1.cell? ⟨w.heap.size, 3, none⟩ = some (.bool ds) := X.cell 3
  have r0 : w1.cell? ⟨w.heap.size + 1, 0, none⟩ = some (.slice none 0 0) := R.cell 0
  have r1 : w1.cell? ⟨w.heap.size + 1, 1, none⟩ = some (.int .i64 0) := R.cell 1
  have r2 : w1.cell? ⟨w.heap.size + 1, 2, none⟩ = some (.int .i64 0) := R.cell 2
  have f0 := R.free 0
  have f1 := R.free 1
  have f2 := R.free 2
  have rz := R.lt
  have xz := X.lt
  have hB2 := ((hB.setCell (p := ⟨w.heap.size + 1, 0, none⟩) (by simp) (.slice none 0 0)).setCell (p := ⟨w.heap.size + 1, 1, none⟩) (by simp) (.int .i64 0)).setCell (p := ⟨w.heap.size + 1, 2, none⟩) (by simp) (.int .i64 0)
  have R2 := ((R.set 0 (.slice none 0 0)).set 1 (.int .i64 0)).set 2 (.int .i64 0)
  clear X R hB hD hdl hds hc
  have hck : er ≠ ck ∨ er = ck := by omega
  rcases hw with ⟨h1, rfl⟩ | ⟨rfl, rfl, rfl⟩ | ⟨rfl, rfl, h1, rfl⟩
  · have e1 : (er != 0) = true := by simp; omega
    have e2 : (er == 0) = false := by simp; omega
    clear hck h1
    go_wp2
    generalize ((w1.setCell ⟨w.heap.size + 1, 0, none⟩ (.slice none 0 0)).setCell ⟨w.heap.size + 1, 1, none⟩ (.int .i64 0)).setCell ⟨w.heap.size + 1, 2, none⟩ (.int .i64 0) = W at R2 hB2 ⊢
    have y0 : W.cell? ⟨w.heap.size + 1, 0, none⟩ = some (.slice none 0 0) := R2.cell 0
    have y1 : W.cell? ⟨w.heap.size + 1, 1, none⟩ = some (.int .i64 0) := R2.cell 1
    have y2 : W.cell? ⟨w.heap.size + 1, 2, none⟩ = some (.int .i64 0) := R2.cell 2
    refine ⟨_, (by simp [results, Try.results12, go_sem, y0, y1, y2] : _ = Result.ok (.tuple #[.agg #[.slice none 0 0, .int .i64 0, .int .i64 0], .int .i64 er]) _), ?_⟩
    exact ⟨none, 0, 0, Jn.zero, er, rfl, hT, rfl, Lib.hid (rwAt_nil _ _), hB2⟩
  · clear hck
    go_wp2
    generalize ((w1.setCell ⟨w.heap.size + 1, 0, none⟩ (.slice none 0 0)).setCell ⟨w.heap.size + 1, 1, none⟩ (.int .i64 0)).setCell ⟨w.heap.size + 1, 2, none⟩ (.int .i64 0) = W at R2 hB2 ⊢
    have y0 : W.cell? ⟨w.heap.size + 1, 0, none⟩ = some (.slice none 0 0) := R2.cell 0
    have y1 : W.cell? ⟨w.heap.size + 1, 1, none⟩ = some (.int .i64 0) := R2.cell 1
    have y2 : W.cell? ⟨w.heap.size + 1, 2, none⟩ = some (.int .i64 0) := R2.cell 2
    refine ⟨_, (by simp [results, Try.results12, go_sem, y0, y1, y2] : _ = Result.ok (.tuple #[.agg #[.slice none 0 0, .int .i64 0, .int .i64 0], .int .i64 40]) _), ?_⟩
    exact ⟨none, 0, 0, Jn.zero, 40, rfl, hT, rfl, Lib.hid (rwAt_nil _ _), hB2⟩
  · clear hck
    go_wp2
    generalize ((w1.setCell ⟨w.heap.size + 1, 0, none⟩ (.slice none 0 0)).setCell ⟨w.heap.size + 1, 1, none⟩ (.int .i64 0)).setCell ⟨w.heap.size + 1, 2, none⟩ (.int .i64 0) = W at R2 hB2 ⊢
    have y0 : W.cell? ⟨w.heap.size + 1, 0, none⟩ = some (.slice none 0 0) := R2.cell 0
    have y1 : W.cell? ⟨w.heap.size + 1, 1, none⟩ = some (.int .i64 0) := R2.cell 1
    have y2 : W.cell? ⟨w.heap.size + 1, 2, none⟩ = some (.int .i64 0) := R2.cell 2
    refine ⟨_, (by simp [results, Try.results12, go_sem, y0, y1, y2] : _ = Result.ok (.tuple #[.agg #[.slice none 0 0, .int .i64 0, .int .i64 0], .int .i64 1]) _), ?_⟩
    exact ⟨none, 0, 0, Jn.zero, 1, rfl, hT, rfl, Lib.hid (rwAt_nil _ _), hB2⟩

theorem jOpen_any (d : Dk) (Vs Vp : Value) (S : Nat → Prop) (w : World) (hD : DkAt w S Vs Vp d) : Calls Try.prog 12 #[d.v Vs Vp] w (RetJn (openT d) S w) := by
  obtain ⟨As, cs, rfl, _⟩ := hD.sectors.form
  obtain ⟨Ap, cp, rfl, _⟩ := hD.pending.form
  by_cases hc : d.checkT = 0
  · rcases hs : d.stopped with _ | _
    · by_cases hp : d.pending = []
      · have hok : d.okB = true := by
          rcases h : d.okB with _ | _
          · rw [Dk.checkT, h] at hc; exact absurd hc (by decide)
          · rfl
        obtain ⟨h1, h2, _, _, _, _, h7⟩ := okB_parts hok
        have := jOpen_go d As _ cs Ap _ cp _ _ S w (Lib.hid hD) rfl (Lib.hid hs) rfl rfl (Lib.hid hc) rfl (by rw [hp]; rfl) (Lib.hid h7) h2
        rw [Dk.v, hs]
        exact this
      · have := jOpen_no d As _ cs Ap _ cp _ _ 0 1 S w (Lib.hid hD) rfl (Lib.hid hs) (Lib.hid hc) (Lib.hid (by rw [openT, hc, hs]; simp [hp])) (.inr (.inr ⟨rfl, rfl, List.length_pos_iff.2 hp, rfl⟩))
        rw [Dk.v, hs]
        exact this
    · have := jOpen_no d As _ cs Ap _ cp _ _ 0 40 S w (Lib.hid hD) rfl (Lib.hid hs) (Lib.hid hc) (Lib.hid (by rw [openT, hc, hs]; simp)) (.inr (.inl ⟨rfl, rfl, rfl⟩))
      rw [Dk.v, hs]
      exact this
  · exact jOpen_no d As _ cs Ap _ cp _ _ d.checkT d.checkT S w (Lib.hid hD) rfl rfl rfl (Lib.hid (by rw [openT, if_pos hc])) (.inl ⟨hc, rfl⟩)

end Go.Proofs.Ythlidhfahaalgaa

/-
  record of the reference of chapter 5. (Printed by gen_jq.py.) A sector has 128 bytes, and there are at most 4096.
-/
namespace Go.Proofs.Ythlidhfahaalgaa
open Go.RowKit
attribute [local go_sem ↓ high] app_named cop_named

/-- An empty row that has just been made. -/
theorem ownBs_made (w : World) : OwnBs (w.alloc (.cells #[] 5)) w.heap.size (.slice (some ⟨w.heap.size, 0, none⟩) 0 0) [] := by
  unfold OwnBs
  exact ⟨by simp [byV], .inr ⟨w.heap.size, 0, #[], rfl, Nat.le_refl _, heap_alloc_new w _, Nat.le_refl _, Nat.zero_le _, by simp, by simp [byV]⟩⟩
theorem rgood_at {s : Bs} {q b o c : Nat} {k : Int} {S : Nat → Prop} {w : World} {t : Bool} (h : BsAt w S (.slice (some ⟨b, o, none⟩) 128 c) s) (hs : s.length = 128) (hq : q < 65536) (hk : k = (q : Int)) (ht : goodT s q = t) (x : Later w) :
    Calls Try.prog 72 #[.slice (some ⟨b, o, none⟩) 128 c, .int .i64 k] x.w fun e w' => e = .returned (.bool t) ∧ Below x.w.heap.size x.w w' := by
  subst ht hk
  exact jRGood_any s q _ c S x.w (Lib.hid (h.keep (Keeps.of x.below))) (Lib.hid hs) hq
theorem number4_at {s : Bs} {b o c g : Nat} {S : Nat → Prop} {w : World} (h : BsAt w S (.slice (some ⟨b, o, none⟩) 128 c) s) (hs : s.length = 128) (hc : 128 ≤ c ∧ c ≤ maxLen) (hg : genT s = g) (x : Later w) :
    Calls Try.prog 63 #[.slice (some ⟨b, o, none⟩) 4 c] x.w fun e w' => e = .returned (.int .u64 (g : Nat)) ∧ x.w = w' :=
  (jNumber_at (l := s.take 4) (n := 4) (S := S) (by have := (h.keep (Keeps.of x.below)).sub 0 4 c (by omega) (by omega) hc.2 hs; rwa [Nat.add_zero, List.drop_zero] at this) (by simp; omega) (by omega) hg).mono fun _ _ h => ⟨h.1, h.2.symm⟩
def RetRec (t : Option (Bs × Nat)) (w : World) (e : Ending) (w' : World) : Prop := ∃ (V : Value) (k : Nat), e = .returned (.tuple #[V, .int .i64 (k : Int)]) ∧ Below w.heap.size w w' ∧ ((t = none ∧ k = 0 ∧ V = .slice none 0 0) ∨ ∃ b, t = some (b, k) ∧ OwnBs w' w.heap.size V b)

set_option maxRecDepth 100000 in
set_option maxHeartbeats 16000000 in
theorem jRRecord_any (L : List Bs) (A : Option Addr) (m c p : Nat) (Sd : Nat → Prop) (w : World)
    (hL : Hid (RwAt w Sd (.slice A m c) L)) (hm : Hid (L.length = m)) (hm2 : m ≤ 4096) (h128 : Hid (∀ s ∈ L, s.length = 128)) (hpm : p ≤ m) :
    Calls Try.prog 62 #[.slice A m c, .int .i64 (p : Int)] w (RetRec (recGo (genT (L.getD p [])) p true (L.drop p)) w) := by
  obtain ⟨T, hT⟩ : ∃ T, recGo (genT (L.getD p [])) p true (L.drop p) = T := ⟨_, rfl⟩
  rw [hT]
  have HTT := Lib.hid hT
  clear hT
  have hown0 := ownBs_made w
  have hB0 := (Below.refl w.heap.size w).alloc (Nat.le_refl _) (.cells #[] 5)
  go_enter Try.func62, Try.ntmps62
  go_wp2
  go_loopw [6, 7] (fun s6 s7 wi => ∃ (j : Nat) (acc : Bs), p + j ≤ m ∧ s7 = .int .i64 (j : Int) ∧ Hid (OwnBs wi w.heap.size s6 acc) ∧ acc.length ≤ j * 112 ∧ Below w.heap.size w wi ∧
      Hid (T = (recGo (genT (L.getD p [])) (p + j) (decide (j = 0)) (L.drop (p + j))).map fun x => (acc ++ x.1, x.2 + j))) (fun _ s7 _ => m - (intOf s7).toNat)
  case atStart =>
    refine ⟨0, [], hpm, rfl, Lib.hid hown0, by simp, hB0, Lib.hid ?_⟩
    rw [← HTT.out, decide_eq_true rfl, Nat.add_zero]
    cases recGo (genT (L.getD p [])) p true (L.drop p) <;> simp
  case round =>
    clear hown0 hB0
    obtain ⟨j, acc, hjm, rfl, hown, hal, hBi, hrec⟩ := hrel
    obtain ⟨wi, rfl⟩ : ∃ wi : World, wi = wr := ⟨_, rfl⟩
    have w0 : IntKind.i64.wrap ((p : Int) + (j : Int)) = (p : Int) + (j : Int) := IntWalk.i64_in _ (by omega)
    rcases Nat.lt_or_ge (p + j) m with hlt | hge
    rotate_left
    · have hE : T = none := by
        rw [hrec.out, show L.drop (p + j) = [] from List.drop_of_length_le (by rw [hm.out]; omega)]
        rfl
      have HE := Lib.hid hE
      clear hE
      have hl0 : ¬ ((p : Int) + (j : Int) < (m : Int)) := by omega
      have hl1 : decide ((p : Int) + (j : Int) < (m : Int)) = false := by simp; omega
      clear hrec hown hal HTT
      go_wp2
      go_ret2
      exact ⟨_, 0, rfl, hBi, .inl ⟨HE.out, rfl, rfl⟩⟩
    have hqL : p + j < L.length := by rw [hm.out]; exact hlt
    have hpL : p < L.length := by omega
    obtain ⟨lb, lo, bs, os, cs, hA, hSl, hzl, hcq, hbq, hcs1, hcs2⟩ := sec_at hL.out h128.out hqL
    obtain ⟨lb2, lo2, b0, o0, c0, hA2, _, _, hcp, hb0, hc1, hc2⟩ := sec_at hL.out h128.out hpL
    rw [hA] at hA2
    cases hA2
    subst hA
    have gp : genT (L.getD p []) = genT L[p] := by rw [List.getD_eq_getElem?_getD, List.getElem?_eq_getElem hpL]; rfl
    have hsq := h128.out _ (List.getElem_mem hqL)
    have hsp := h128.out _ (List.getElem_mem hpL)
    obtain ⟨_, _, e, hSb, hbz, c10⟩ := hbq.cell (k := 10) (by rw [hsq]; decide)
    cases e
    obtain ⟨_, _, e, _, _, c11⟩ := hbq.cell (k := 11) (by rw [hsq]; decide)
    cases e
    rw [show ((L[p + j]).getD 10 0).toNat = kindT L[p + j] from rfl] at c10
    rw [show ((L[p + j]).getD 11 0).toNat = manyT L[p + j] from rfl] at c11
    obtain ⟨t, ht⟩ : ∃ t, goodT L[p + j] (p + j) = t := ⟨_, rfl⟩
    obtain ⟨gq, hgq⟩ : ∃ gq, genT L[p + j] = gq := ⟨_, rfl⟩
    obtain ⟨g0, hg0⟩ : ∃ g0, genT L[p] = g0 := ⟨_, rfl⟩
    obtain ⟨x, hx⟩ : ∃ x, kindT L[p + j] = x := ⟨_, rfl⟩
    obtain ⟨z, hz⟩ : ∃ z, manyT L[p + j] = z := ⟨_, rfl⟩
    have hgj : j = 0 → gq = g0 := fun h => by subst h; rw [← hgq, ← hg0]; rfl
    have hk256 : x < 256 := by rw [← hx]; exact u8_lt _
    have hn256 : z < 256 := by rw [← hz]; exact u8_lt _
    have hrc := recGo_cons (g := genT L[p]) (k := p + j) (first := decide (j = 0)) hqL
    have HGP := Lib.hid (gp.trans hg0)
    rw [gp, hg0] at hrec
    rw [hg0, ht, hx, hgq] at hrc
    rw [hx] at c10
    rw [hz] at c11
    have hNone : recGo g0 (p + j) (decide (j = 0)) (L.drop (p + j)) = none → T = none := fun h => by
      have h2 := hrec.out
      rw [h] at h2
      exact h2.trans rfl
    have hKi : Keeps Sd w wi := Keeps.of hBi
    have CG := rgood_at (hbq.keep hKi) hsq (by omega) (k := (p : Int) + (j : Int)) (by omega) ht
    have Cs := number4_at (hbq.keep hKi) hsq ⟨hcs1, hcs2⟩ hgq
    have C0 := number4_at (hb0.keep hKi) hsp ⟨hc1, hc2⟩ hg0
    have y1 := hKi.cell hSl hzl hcq
    have y2 := hKi.cell hSl hzl hcp
    have y3 := hKi.cell hSb hbz c10
    have y4 := hKi.cell hSb hbz c11
    have z1 := Nat.lt_of_lt_of_le hzl hKi.1
    have z2 := Nat.lt_of_lt_of_le hbz hKi.1
    have J2 := Later.cell y2 z1
    have J3 := Later.cell y3 z2
    have HD := Lib.hid (fun hn : manyT L[p + j] ≤ 112 => hbq.sub 12 (manyT L[p + j]) (cs - 12) (by omega) (by omega) (by omega) hsq)
    have hl1 : decide ((p : Int) + (j : Int) < (m : Int)) = true := by simp; omega
    have hl2 : ((p : Int) + (j : Int)).toNat = p + j := by omega
    have HRC := Lib.hid hrc
    have HNO := Lib.hid hNone
    have HGK := Lib.hid (fun h : t = true => good_kind (ht.trans h))
    have HT := Lib.hid ht
    have HGQ := Lib.hid hgq
    have HG0 := Lib.hid hg0
    have HX := Lib.hid hx
    have HZ := Lib.hid hz
    have HSQ := Lib.hid hsq
    have HGJ := Lib.hid hgj
    have i0 : (0 : Int) ≤ (p : Int) + (j : Int) := by omega
    have i1 : (p : Int) + (j : Int) < (m : Int) := by omega
    have i2 : (0 : Int) ≤ (p : Int) := by omega
    have i3 : (p : Int) < (m : Int) := by omega
    clear hrc hNone ht hgq hg0 hx hz gp hsq hsp hbq hb0 hcp y2 hgj HTT
    rcases t with _ | _
    · -- no good sector
      have hE := HNO.out (by rw [HRC.out, if_neg (by simp)])
      have HE := Lib.hid hE
      clear hE c10 c11 HD HGK hcq hk256 hn256 hown hrec HRC HNO
      go_wp2_with fail
      refine wp_region_later (by kernel_rfl) (by kernel_rfl) ?_
      repeat (go_big_quiet_step (first | (go_at_call 72; exact Later.call _ (CG _)) | (go_at_call 63; first | with_reducible exact Later.same _ (Cs _) | with_reducible exact Later.same _ (C0 _))))
      refine wpQuiet_nil ?_
      intro _ hw'
      obtain ⟨yq, hw''⟩ := hw'
      subst hw''
      have hE := HE.out
      go_wp2
      go_ret2
      exact ⟨_, 0, rfl, hBi.trans (yq.below.mono hBi.size), .inl ⟨hE, rfl, rfl⟩⟩
    obtain ⟨hk3, hn112⟩ := HGK.out rfl
    rw [HX.out] at hk3
    rw [HZ.out] at hn112
    obtain ⟨f1, hf1⟩ : ∃ f, decide (x % 2 = 1) = f := ⟨_, rfl⟩
    obtain ⟨f0, hf0⟩ : ∃ f, decide (j = 0) = f := ⟨_, rfl⟩
    obtain ⟨f2, hf2⟩ : ∃ f, decide (2 ≤ x) = f := ⟨_, rfl⟩
    have kb1 : ((x : Int) % 2 == 1) = f1 := by rw [← hf1, Bool.eq_iff_iff]; simp; omega
    have kc1 : ((x : Int).tmod 2 == 1) = f1 := by rw [Int.tmod_eq_emod_of_nonneg (by omega)]; exact kb1
    have kb2 : decide (2 ≤ (x : Int)) = f2 := by rw [← hf2, Bool.eq_iff_iff]; simp; omega
    have qp1 : ((j : Int) == 0) = f0 := by rw [← hf0, Bool.eq_iff_iff]; simp
    have qp3 : decide (0 < (j : Int)) = !f0 := by rw [← hf0, Bool.eq_iff_iff]; simp; omega
    have qp4 : decide (0 < j) = !f0 := by rw [← hf0, Bool.eq_iff_iff]; simp; omega
    have HF1 := Lib.hid hf1
    have HF0 := Lib.hid hf0
    have HF2 := Lib.hid hf2
    clear hf1 hf0 hf2 HGK
    by_cases hff : f1 ≠ f0
    · have HE : Hid (T = none) := HNO.out (by rw [HRC.out, if_neg (by rintro ⟨_, h, _⟩; rw [HF1.out, HF0.out] at h; exact hff h)])
      clear HD hcq c10 c11 hown hrec HRC HNO
      rcases f1 with _ | _ <;> rcases f0 with _ | _
      · exact absurd rfl hff
      rotate_right 1
      · exact absurd rfl hff
      all_goals
        clear hff
        go_wp2_with fail
        refine wp_region_later (by kernel_rfl) (by kernel_rfl) ?_
        repeat (go_big_quiet_step (first | (go_at_call 72; exact Later.call _ (CG _)) | (go_at_call 63; first | with_reducible exact Later.same _ (Cs _) | with_reducible exact Later.same _ (C0 _))))
        refine wpQuiet_nil ?_
        intro _ hw'
        obtain ⟨yq, hw''⟩ := hw'
        subst hw''
        have hE := HE.out
        go_wp2
        go_ret2
        exact ⟨_, 0, rfl, hBi.trans (yq.below.mono hBi.size), .inl ⟨hE, rfl, rfl⟩⟩
    obtain rfl : f1 = f0 := Classical.byContradiction hff
    clear hff
    by_cases hgg : gq ≠ g0
    · have HE : Hid (T = none) := HNO.out (by rw [HRC.out, if_neg (by rintro ⟨_, _, h⟩; exact hgg h)])
      have gg1 : ((gq : Int) == (g0 : Int)) = false := by simp; omega
      have gg2 : ((gq : Int) != (g0 : Int)) = true := by simp; omega
      obtain rfl : f1 = false := by
        rcases f1 with _ | _
        · rfl
        · exact absurd (HGJ.out (of_decide_eq_true HF0.out)) hgg
      clear HD hcq c10 c11 hgg hown hrec HRC HNO
      go_wp2_with fail
      refine wp_region_later (by kernel_rfl) (by kernel_rfl) ?_
      repeat (go_big_quiet_step (first | (go_at_call 72; exact Later.call _ (CG _)) | (go_at_call 63; first | with_reducible exact Later.same _ (Cs _) | with_reducible exact Later.same _ (C0 _))))
      refine wpQuiet_nil ?_
      intro _ hw'
      obtain ⟨yq, hw''⟩ := hw'
      subst hw''
      have hE := HE.out
      go_wp2
      go_ret2
      exact ⟨_, 0, rfl, hBi.trans (yq.below.mono hBi.size), .inl ⟨hE, rfl, rfl⟩⟩
    obtain rfl : gq = g0 := Classical.byContradiction hgg
    clear hgg
    have HREC := Lib.hid (show recGo gq (p + j) f1 (L.drop (p + j)) = (if 2 ≤ x then some (dataT L[p + j], 1) else (recGo gq (p + j + 1) false (L.drop (p + j + 1))).map fun x => (dataT L[p + j] ++ x.1, x.2 + 1)) by
      have h := HRC.out
      rw [HF0.out] at h
      rw [h, if_pos ⟨rfl, HF1.out, rfl⟩])
    rw [HF0.out] at hrec
    have HHREC := hrec
    clear hrec HRC HNO
    go_upto_region 6 with fail
    go_cut [55] from 24 to 54 (fun s55 wx => s55 = .bool false ∧ Below wi.heap.size wi wx)
    case first =>
      clear hown HHREC HREC
      rcases f1 with _ | _
      all_goals
        refine wp_region_later (by kernel_rfl) (by kernel_rfl) ?_
        repeat (go_big_quiet_step (first | (go_at_call 72; exact Later.call _ (CG _)) | (go_at_call 63; first | with_reducible exact Later.same _ (Cs _) | with_reducible exact Later.same _ (C0 _))))
        refine wpQuiet_nil ?_
        intro _ hw'
        obtain ⟨yq, hw''⟩ := hw'
        subst hw''
        go_wp2_with fail
        go_meet
        exact ⟨rfl, yq.below⟩
    case rest =>
      obtain ⟨rfl, hb6⟩ := hcut
      obtain ⟨Av, cv, hV⟩ := hown.out.form'
      subst hV
      have ho6 := hown.out.later hb6
      have hB6 := hBi.trans (hb6.mono hBi.size)
      have hK6 : Keeps Sd w wc := Keeps.of hB6
      have hLQ : (dataT L[p + j]).length = z := by rw [data_length HSQ.out (by rw [HZ.out]; exact hn112), HZ.out]
      have hD6 := (HD.out (by rw [HZ.out]; exact hn112)).keep hK6
      rw [HZ.out] at hD6
      have hD6 : BsAt wc Sd (.slice (some ⟨bs, os + 12, none⟩) z (cs - 12)) (dataT L[p + j]) := by rw [dataT, HZ.out]; exact hD6
      have hbase6 : w.heap.size ≤ wc.heap.size := hB6.size
      obtain ⟨V7, w7, hr7, ho7, hg7⟩ := run_appB 35 ho6 hD6 hbase6 (by rw [hLQ]; omega)
      have hb7 := own_below ho6 hbase6 hg7
      have hB7 := hB6.trans hb7
      have hlen7 : (acc ++ dataT L[p + j]).length ≤ (j + 1) * 112 := by rw [List.length_append, hLQ, Nat.add_mul]; omega
      have v4 := hK6.cell hSb hbz c11
      have v3 := (Keeps.of (S := Sd) hB7).cell hSb hbz c10
      have v3z := Nat.lt_of_lt_of_le hbz hB7.size
      have v4z := Nat.lt_of_lt_of_le hbz hB6.size
      have HOWN7 := Lib.hid ho7
      have hcsl : (cs : Int) ≤ 9223372036854775807 := by simp only [maxLen] at hcs2; omega
      clear CG Cs C0 J2 J3 HD hown ho6 hD6 hg7 ho7 y1 y3 y4 z1 z2 hl1 kb1 kc1 qp1 qp3 qp4 i0 i1 i2 i3 hl2 w0
      rcases f2 with _ | _
      · have hx2 : ¬ 2 ≤ x := by simpa using HF2.out
        have HN := Lib.hid (show T = (recGo (genT (L.getD p [])) (p + (j + 1)) (decide (j + 1 = 0)) (L.drop (p + (j + 1)))).map fun x => ((acc ++ dataT L[p + j]) ++ x.1, x.2 + (j + 1)) by
          rw [HGP.out, HHREC.out, HREC.out, if_neg hx2, decide_eq_false (show ¬ j + 1 = 0 by omega), Nat.add_assoc]
          rcases recGo gq (p + (j + 1)) false (L.drop (p + (j + 1))) with _ | ⟨b, k⟩
          · rfl
          · simp only [Option.map_some, List.append_assoc]
            congr 2
            omega)
        clear hx2 HHREC HREC
        go_wp2
        exact ⟨⟨j + 1, _, by omega, by go_num, HOWN7, hlen7, hB7, HN⟩, by simp [intOf] <;> omega⟩
      · have hx2 : 2 ≤ x := by simpa using HF2.out
        have HR2 := Lib.hid (show T = some (acc ++ dataT L[p + j], j + 1) by
          rw [HHREC.out, HREC.out, if_pos hx2]
          simp only [Option.map_some]
          congr 2
          omega)
        clear hx2 HHREC HREC
        go_wp2
        go_ret2
        exact ⟨_, j + 1, by simp, hB7, .inr ⟨_, HR2.out, HOWN7.out⟩⟩

end Go.Proofs.Ythlidhfahaalgaa

/-
  Records and Open of the reference of chapter 5. A sector has 128 bytes, and there are at most 4096.
-/
namespace Go.Proofs.Ythlidhfahaalgaa
open Go.RowKit
attribute [local go_sem ↓ high] app_named cop_named

theorem ownRw_made (w : World) (t : TypeId) (ht : t = 35) : OwnRw (w.alloc (.cells #[] t)) w.heap.size (Side w.heap.size (.slice (some ⟨w.heap.size, 0, none⟩) 0 0)) (.slice (some ⟨w.heap.size, 0, none⟩) 0 0) [] := by
  subst ht
  exact ⟨[], ⟨by simp, .inr ⟨w.heap.size, 0, #[], rfl, Nat.le_refl _, heap_alloc_new w _, Nat.le_refl _, Nat.zero_le _, by simp, by simp⟩⟩, fun i x u h => by simp at h⟩
theorem OwnRw.lt {w : World} {base b : Nat} {S : Nat → Prop} {v : Value} {l : List Bs} (h : OwnRw w base S v l) (hb : some b = v.ownBlock) : b < w.heap.size := by
  obtain ⟨xs, hx, _⟩ := h
  exact (World.ownsRow.lt hx b hb.symm).2
theorem recGo_len {g k : Nat} {first : Bool} {l : List Bs} {b : Bs} {n : Nat} (h : recGo g k first l = some (b, n)) : b.length ≤ n * 112 := by
  induction l generalizing k first b n with
  | nil => cases h
  | cons s r ih =>
    rw [recGo] at h
    split at h
    · rename_i hc
      have hd : (dataT s).length ≤ 112 := by
        have := (good_kind hc.1).2
        rw [dataT, List.length_take]
        omega
      split at h
      · injection h with h; injection h with h1 h2; subst h1 h2; omega
      · cases hr : recGo g (k + 1) false r with
        | none => rw [hr] at h; cases h
        | some x =>
          obtain ⟨b', n'⟩ := x
          rw [hr] at h
          injection h with h; injection h with h1 h2
          have := ih hr
          subst h1 h2
          simp only [List.length_append]
          omega
    · cases h
def RetRecs (t : List Bs) (w : World) (e : Ending) (w' : World) : Prop := ∃ (A : Option Addr) (n c : Nat), e = .returned (.slice A n c) ∧ Hid (t.length = n) ∧ Hid (RwAt w' (fun b => w.heap.size ≤ b) (.slice A n c) t) ∧ Below w.heap.size w w'
theorem retRecs_of {t : List Bs} {w w' : World} {V : Value} (ho : OwnRw w' w.heap.size (Side w.heap.size V) V t) (hl : t.length ≤ 4096) (hB : Below w.heap.size w w') : RetRecs t w (.returned V) w' := by
  obtain ⟨A, c, rfl⟩ := ho.form
  exact ⟨A, _, c, rfl, rfl, Lib.hid (ho.rows (by simp only [maxLen]; omega) (fun b h _ => h.1) (fun b h => h)), hB⟩

set_option maxRecDepth 100000 in
set_option maxHeartbeats 16000000 in
theorem jRRecords_any (L : List Bs) (A : Option Addr) (m c : Nat) (Sd : Nat → Prop) (w : World)
    (hL : Hid (RwAt w Sd (.slice A m c) L)) (hm : Hid (L.length = m)) (hm2 : m ≤ 4096) (h128 : Hid (∀ s ∈ L, s.length = 128)) :
    Calls Try.prog 34 #[.slice A m c] w (RetRecs (recordsT L) w) := by
  obtain ⟨T, hT⟩ : ∃ T, recordsT L = T := ⟨_, rfl⟩
  rw [hT]
  have hTl : T.length ≤ 4096 := by rw [← hT]; have := records_len L; have := hm.out; omega
  have hTL : T = [] ++ leftT L 0 0 := hT.symm
  have HTT := Lib.hid hTL
  clear hT hTL
  have hown0 := ownRw_made w 35 rfl
  have hB0 := (Below.refl w.heap.size w).alloc (Nat.le_refl _) (.cells #[] 35)
  go_enter Try.func34, Try.ntmps34
  go_wp2
  go_loopg [3, 4, 5] (m + 1) (fun g s3 s4 s5 wi => ∃ (p last : Nat) (pre : List Bs), p + g = m + 1 ∧ p ≤ m ∧ s4 = .int .i64 (p : Int) ∧ s5 = .int .u64 (last : Int) ∧ last < 4294967296 ∧ pre.length ≤ p ∧ Hid (OwnRw wi w.heap.size (Side w.heap.size s3) s3 pre) ∧ Below w.heap.size w wi ∧ Hid (T = pre ++ leftT L p last))
  case atStart => exact ⟨0, 0, [], by omega, by omega, rfl, rfl, by omega, Nat.le_refl _, Lib.hid hown0, hB0, HTT⟩
  case round =>
    clear hown0 hB0 HTT
    obtain ⟨p, last, pre, hpg, hpm, rfl, rfl, hlast, hpl, hown, hBi, hT⟩ := hrel
    obtain ⟨wi, rfl⟩ : ∃ wi : World, wi = wr := ⟨_, rfl⟩
    have hKi : Keeps Sd w wi := Keeps.of hBi
    obtain ⟨Av, cv, hV⟩ := hown.out.form
    subst hV
    have hsz := hBi.size
    have CR := jRRecord_any L A m c p Sd wi (Lib.hid (hL.out.keep hKi)) hm hm2 h128 hpm
    rcases hrr : recGo (genT (L.getD p [])) p true (L.drop p) with _ | ⟨b, k⟩
    · rw [hrr] at CR
      have hE : T = pre := by
        rw [hT.out]
        rcases Nat.lt_or_ge p L.length with h | h
        · have h1 : genT (L.getD p []) = genT L[p] := by rw [List.getD_eq_getElem?_getD, List.getElem?_eq_getElem h]; rfl
          rw [h1] at hrr
          rw [leftT_none h hrr, List.append_nil]
        · rw [leftT_end h, List.append_nil]
      subst hE
      clear hrr hT
      go_wp2_with fail
      refine CR.mono ?_
      rintro e w1 ⟨V, k, rfl, hb, ⟨_, rfl, rfl⟩ | ⟨_, h, _⟩⟩
      rotate_left
      · cases h
      have ho1 := hown.out.keep hb
      have hB1 := hBi.trans (hb.mono hBi.size)
      have HO1 := Lib.hid ho1
      clear ho1 hown CR
      go_wp2
      go_ret
      exact retRecs_of (V := .slice Av T.length cv) HO1.out hTl hB1
    · rw [hrr] at CR
      have hk := recGo_pos hrr
      rw [List.length_drop, hm.out] at hk
      have hpL : p < L.length := by rw [hm.out]; omega
      have h1 : genT (L.getD p []) = genT L[p] := by rw [List.getD_eq_getElem?_getD, List.getElem?_eq_getElem hpL]; rfl
      rw [h1] at hrr
      have HRR := Lib.hid hrr
      clear hrr
      obtain ⟨lb, lo, bs, os, cs, hA, hSl, hzl, hcq, hbq, hcs1, hcs2⟩ := sec_at hL.out h128.out hpL
      subst hA
      have hsq := h128.out _ (List.getElem_mem hpL)
      obtain ⟨gq, hgq⟩ : ∃ gq, genT L[p] = gq := ⟨_, rfl⟩
      have hg32 : gq < 4294967296 := by rw [← hgq]; exact numT_lt4 (by simp; omega)
      have HG := Lib.hid (fun (W : World) (h : Keeps Sd w W) => number4_at (hbq.keep h) hsq ⟨hcs1, hcs2⟩ hgq ⟨W, Below.refl _ _⟩)
      have HGQ := Lib.hid hgq
      have hk0 : ((k : Int) == 0) = false := by simp; omega
      have i0 : (0 : Int) ≤ (p : Int) := by omega
      have i1 : (p : Int) < (m : Int) := by omega
      clear hgq hbq hsq h1
      go_wp2_with fail
      refine CR.mono ?_
      rintro e w1 ⟨V, k', rfl, hb, ⟨h, _⟩ | ⟨b', h, hbs⟩⟩
      · cases h
      cases h
      have ho1 := hown.out.keep hb
      have hB1 := hBi.trans (hb.mono hBi.size)
      have HO1 := Lib.hid ho1
      have HBS := Lib.hid hbs
      have hK1 : Keeps Sd w w1 := Keeps.of hB1
      have G1 : Calls Try.prog 63 #[.slice (some ⟨bs, os, none⟩) 4 cs] w1 fun e w' => e = .returned (.int .u64 (gq : Nat)) ∧ w1 = w' := HG.out w1 hK1
      have y1 := hK1.cell hSl hzl hcq
      have y1z := Nat.lt_of_lt_of_le hzl hK1.1
      have hbz := hb.size
      clear ho1 hbs CR HG hcq
      by_cases hll : gq < last
      · have hE : T = pre := by rw [hT.out, leftT_old hpL (by rw [HGQ.out]; exact hll), List.append_nil]
        subst hE
        have gl : decide ((gq : Int) < (last : Int)) = true := by simp; omega
        have gl2 : decide (gq < last) = true := by simp; omega
        clear hll hT HRR HBS
        go_wp2_with fail
        refine G1.mono ?_
        rintro e w2 ⟨rfl, rfl⟩
        go_wp2
        go_ret
        exact retRecs_of (V := .slice Av T.length cv) HO1.out hTl hB1
      have hT2 : T = (pre ++ [b]) ++ leftT L (p + k) gq := by
        rw [hT.out, leftT_some hpL HRR.out (by rw [HGQ.out]; exact hll), HGQ.out, List.append_assoc]; rfl
      have HT2 := Lib.hid hT2
      have gl : decide ((gq : Int) < (last : Int)) = false := by simp; omega
      have gl2 : decide (gq < last) = false := by simp; omega
      have hxl : b.length ≤ 1048576 := by
        have h1 := recGo_len HRR.out
        have h2 : k * 112 ≤ 4096 * 112 := Nat.mul_le_mul_right _ (by omega)
        omega
      obtain ⟨Ab, cb, hVb⟩ := HBS.out.form'
      subst hVb
      have ha := (Below.refl _ w1).alloc (Nat.le_refl _) (.cells #[.slice Ab b.length cb] 35)
      have hUs : BsAt w1 (Side w.heap.size (.slice Av pre.length cv)) (.slice Ab b.length cb) b := (HBS.out.bs (by simp only [maxLen]; omega)).weak fun g h _ => ⟨by omega, fun e => by
        have := hown.out.lt e
        omega⟩
      obtain ⟨v', w3, hr, ho3, hb3⟩ := run_ownR (HO1.out.keep ha) (Box.new w1 [.slice Ab b.length cb] 35) (hUs.keep (Keeps.of ha)) (by have := hB1.size; simp; omega) (by omega)
      have HO3 := Lib.hid ho3
      have hB3 := (hB1.alloc hB1.size (.cells #[.slice Ab b.length cb] 35)).trans hb3
      clear hll hT2 hT HRR HBS hUs ho3 ha hown
      go_wp2_with fail
      refine G1.mono ?_
      rintro e w2 ⟨rfl, rfl⟩
      go_wp2_with fail
      refine G1.mono ?_
      rintro e w2 ⟨rfl, rfl⟩
      go_wp2
      go_roundg (m + 1 - (p + k))
      case measure => omega
      case rel => exact ⟨p + k, gq, pre ++ [b], by omega, by omega, by go_num, rfl, hg32, by rw [List.length_append, List.length_singleton]; omega, HO3, hB3, HT2⟩

end Go.Proofs.Ythlidhfahaalgaa

/-
  Open of the reference of chapter 5. No condition.
-/
namespace Go.Proofs.Ythlidhfahaalgaa
open Go.RowKit
attribute [local go_sem ↓ high] app_named cop_named

set_option maxRecDepth 100000 in
set_option maxHeartbeats 8000000 in
theorem jROpen_go (d : Dk) (As : Option Addr) (ns cs : Nat) (Ap : Option Addr) (np cp : Nat) (dl : Int) (ds : Bool) (S : Nat → Prop) (w : World) (hD : Hid (DkAt w S (.slice As ns cs) (.slice Ap np cp) d)) (hdl : Hid (d.left = dl)) (hds : Hid (d.stopped = ds)) (hns : Hid (d.sectors.length = ns)) (hnp : Hid (d.pending.length = np))
    (hc : Hid (d.checkT = 0)) (hst : ds = false) (hpn : np = 0) (h128 : Hid (∀ s ∈ d.sectors, s.length = 128)) (hns2 : ns ≤ 4096) :
    Calls Try.prog 13 #[.agg #[.slice As ns cs, .slice Ap np cp, .int .i64 dl, .bool ds]] w (RetJn (openT d) S w) := by
  subst hst hpn
  obtain ⟨T, hT⟩ : ∃ T, recordsT d.sectors = T := ⟨_, rfl⟩
  have HT := Lib.hid (show openT d = (⟨T, (ns : Int), (T.length : Int)⟩, 0) by
    have hp : d.pending = [] := List.eq_nil_of_length_eq_zero hnp.out
    rw [openT, hT, hc.out, hds.out, hp, hns.out]; rfl)
  have hTl : T.length ≤ 4096 := by rw [← hT]; have := records_len d.sectors; have := hns.out; omega
  have HTT := Lib.hid hT
  clear hT
  have HB0 := ((Below.refl w.heap.size w).alloc (Nat.le_refl _) (.cells #[.slice As ns cs, .slice Ap 0 cp, .int .i64 dl, .bool false] 25)).alloc (by simp) (.cells #[.slice none 0 0, .int .i64 0, .int .i64 0] 29)
  have HD0 := hD.out.keep (Keeps.of HB0)
  go_enter Try.func13, Try.ntmps13
  go_wp2_with fail
  refine (dRCheck_at hc HD0 hdl hds).mono ?_
  rintro e w1 ⟨rfl, hb⟩
  have X := ((Box.new w [.slice As ns cs, .slice Ap 0 cp, .int .i64 dl, .bool false] 25).alloc (.cells #[.slice none 0 0, .int .i64 0, .int .i64 0] 29)).later hb
  have R := (Box.newAt (w := w.alloc (.cells #[.slice As ns cs, .slice Ap 0 cp, .int .i64 dl, .bool false] 25)) (n := w.heap.size + 1) [.slice none 0 0, .int .i64 0, .int .i64 0] 29 (by simp)).later hb
  have hB := HB0.trans (hb.mono HB0.size)
  clear hb HB0 HD0
  have x0 : w1.cell? ⟨w.heap.size, 0, none⟩ = some (.slice As ns cs) := X.cell 0
  have x1 : w1.cell? ⟨w.heap.size, 1, none⟩ = some (.slice Ap 0 cp) := X.cell 1
  have x3 : w1.cell? ⟨w.heap.size, 3, none⟩ = some (.bool false) := X.cell 3
  go_wp2_with fail
  have HW1 := Lib.hid (show w.heap.size + 1 < w1.heap.size from R.lt)
  refine (jRRecords_any d.sectors As ns cs S w1 (Lib.hid (hD.out.sectors.keep (Keeps.of hB))) hns hns2 h128).mono ?_
  rintro e w2 ⟨A, n, c, rfl, hn, hrw, hb⟩
  rw [HTT.out] at hn hrw
  have X := X.later hb
  have R := R.later hb
  have HB1 := Lib.hid hB.size
  have hB := hB.trans (hb.mono hB.size)
  have hn2 : n ≤ 4096 := by rw [← hn.out]; exact hTl
  clear hb x0 x1 x3
  rw [hn.out] at HT
  have x0 : w2.cell? ⟨w.heap.size, 0, none⟩ = some (.slice As ns cs) := X.cell 0
  have r0 : w2.cell? ⟨w.heap.size + 1, 0, none⟩ = some (.slice none 0 0) := R.cell 0
  have r1 : w2.cell? ⟨w.heap.size + 1, 1, none⟩ = some (.int .i64 0) := R.cell 1
  have r2 : w2.cell? ⟨w.heap.size + 1, 2, none⟩ = some (.int .i64 0) := R.cell 2
  have f0 := R.free 0
  have f1 := R.free 1
  have f2 := R.free 2
  have rz := R.lt
  go_wp2
  have hR4 : ∀ (W : World) (o : Nat) (u : Value), Keeps (fun b => w1.heap.size ≤ b) W (W.setCell ⟨w.heap.size + 1, o, none⟩ u) := fun W o u => Keeps.set W (by have := HW1.out; simp; omega) u
  have hrw := ((hrw.out.keep (hR4 _ 0 (.slice A n c))).keep (hR4 _ 1 (.int .i64 (ns : Int)))).keep (hR4 _ 2 (.int .i64 (n : Int)))
  have R := ((R.set 0 (.slice A n c)).set 1 (.int .i64 (ns : Int))).set 2 (.int .i64 (n : Int))
  have hB := ((hB.setCell (p := ⟨w.heap.size + 1, 0, none⟩) (by simp) (.slice A n c)).setCell (p := ⟨w.heap.size + 1, 1, none⟩) (by simp) (.int .i64 (ns : Int))).setCell (p := ⟨w.heap.size + 1, 2, none⟩) (by simp) (.int .i64 (n : Int))
  generalize ((w2.setCell ⟨w.heap.size + 1, 0, none⟩ (.slice A n c)).setCell ⟨w.heap.size + 1, 1, none⟩ (.int .i64 (ns : Int))).setCell ⟨w.heap.size + 1, 2, none⟩ (.int .i64 (n : Int)) = W at hrw R hB ⊢
  have y0 : W.cell? ⟨w.heap.size + 1, 0, none⟩ = some (.slice A n c) := R.cell 0
  have y1 : W.cell? ⟨w.heap.size + 1, 1, none⟩ = some (.int .i64 (ns : Int)) := R.cell 1
  have y2 : W.cell? ⟨w.heap.size + 1, 2, none⟩ = some (.int .i64 (n : Int)) := R.cell 2
  refine bodyPost_ret (v := .tuple #[.agg #[.slice A n c, .int .i64 (ns : Int), .int .i64 (n : Int)], .int .i64 0]) (by simp [results, Try.results13, go_sem, y0, y1, y2]) rfl ?_
  exact ⟨A, n, c, ⟨T, (ns : Int), (n : Int)⟩, 0, rfl, HT, hn, Lib.hid (hrw.weak fun b h _ => .inr (Nat.le_trans HB1.out h)), hB⟩

set_option maxRecDepth 100000 in
set_option maxHeartbeats 4000000 in
theorem jROpen_no (d : Dk) (As : Option Addr) (ns cs : Nat) (Ap : Option Addr) (np cp : Nat) (dl : Int) (ds : Bool) (ck er : Int) (S : Nat → Prop) (w : World) (hD : Hid (DkAt w S (.slice As ns cs) (.slice Ap np cp) d)) (hdl : Hid (d.left = dl)) (hds : Hid (d.stopped = ds))
    (hc : Hid (d.checkT = ck)) (hT : Hid (openT d = (Jn.zero, er))) (hw : (ck ≠ 0 ∧ er = ck) ∨ (ck = 0 ∧ ds = true ∧ er = 40) ∨ (ck = 0 ∧ ds = false ∧ 0 < np ∧ er = 1)) :
    Calls Try.prog 13 #[.agg #[.slice As ns cs, .slice Ap np cp, .int .i64 dl, .bool ds]] w (RetJn (openT d) S w) := by
  have HB0 := ((Below.refl w.heap.size w).alloc (Nat.le_refl _) (.cells #[.slice As ns cs, .slice Ap np cp, .int .i64 dl, .bool ds] 25)).alloc (by simp) (.cells #[.slice none 0 0, .int .i64 0, .int .i64 0] 29)
  have HD0 := hD.out.keep (Keeps.of HB0)
  go_enter Try.func13, Try.ntmps13
  go_wp2_with fail
  refine (dRCheck_at hc HD0 hdl hds).mono ?_
  rintro e w1 ⟨rfl, hb⟩
  have X := ((Box.new w [.slice As ns cs, .slice Ap np cp, .int .i64 dl, .bool ds] 25).alloc (.cells #[.slice none 0 0, .int .i64 0, .int .i64 0] 29)).later hb
  have R := (Box.newAt (w := w.alloc (.cells #[.slice As ns cs, .slice Ap np cp, .int .i64 dl, .bool ds] 25)) (n := w.heap.size + 1) [.slice none 0 0, .int .i64 0, .int .i64 0] 29 (by simp)).later hb
  have hB := HB0.trans (hb.mono HB0.size)
  clear hb HB0 HD0
  have x0 : w1.cell? ⟨w.heap.size, 0, none⟩ = some (.slice As ns cs) := X.cell 0
  have x1 : w1.cell? ⟨w.heap.size, 1, none⟩ = some (.slice Ap np cp) := X.cell 1
  have x3 : w1.cell? ⟨w.heap.size, 3, none⟩ = some (.bool ds) := X.cell 3
  have r0 : w1.cell? ⟨w.heap.size + 1, 0, none⟩ = some (.slice none 0 0) := R.cell 0
  have r1 : w1.cell? ⟨w.heap.size + 1, 1, none⟩ = some (.int .i64 0) := R.cell 1
  have r2 : w1.cell? ⟨w.heap.size + 1, 2, none⟩ = some (.int .i64 0) := R.cell 2
  have f0 := R.free 0
  have f1 := R.free 1
  have f2 := R.free 2
  have rz := R.lt
  have xz := X.lt
  have hB2 := ((hB.setCell (p := ⟨w.heap.size + 1, 0, none⟩) (by simp) (.slice none 0 0)).setCell (p := ⟨w.heap.size + 1, 1, none⟩) (by simp) (.int .i64 0)).setCell (p := ⟨w.heap.size + 1, 2, none⟩) (by simp) (.int .i64 0)
  have R2 := ((R.set 0 (.slice none 0 0)).set 1 (.int .i64 0)).set 2 (.int .i64 0)
  clear X R hB hD hdl hds hc
  rcases hw with ⟨h1, rfl⟩ | ⟨rfl, rfl, rfl⟩ | ⟨rfl, rfl, h1, rfl⟩
  · have e1 : (er != 0) = true := by simp; omega
    have e2 : (er == 0) = false := by simp; omega
    clear h1
    go_wp2
    generalize ((w1.setCell ⟨w.heap.size + 1, 0, none⟩ (.slice none 0 0)).setCell ⟨w.heap.size + 1, 1, none⟩ (.int .i64 0)).setCell ⟨w.heap.size + 1, 2, none⟩ (.int .i64 0) = W at R2 hB2 ⊢
    have y0 : W.cell? ⟨w.heap.size + 1, 0, none⟩ = some (.slice none 0 0) := R2.cell 0
    have y1 : W.cell? ⟨w.heap.size + 1, 1, none⟩ = some (.int .i64 0) := R2.cell 1
    have y2 : W.cell? ⟨w.heap.size + 1, 2, none⟩ = some (.int .i64 0) := R2.cell 2
    refine bodyPost_ret (v := .tuple #[.agg #[.slice none 0 0, .int .i64 0, .int .i64 0], .int .i64 er]) (by simp [results, Try.results13, go_sem, y0, y1, y2]) rfl ?_
    exact ⟨none, 0, 0, Jn.zero, er, rfl, hT, rfl, Lib.hid (rwAt_nil _ _), hB2⟩
  · go_wp2
    generalize ((w1.setCell ⟨w.heap.size + 1, 0, none⟩ (.slice none 0 0)).setCell ⟨w.heap.size + 1, 1, none⟩ (.int .i64 0)).setCell ⟨w.heap.size + 1, 2, none⟩ (.int .i64 0) = W at R2 hB2 ⊢
    have y0 : W.cell? ⟨w.heap.size + 1, 0, none⟩ = some (.slice none 0 0) := R2.cell 0
    have y1 : W.cell? ⟨w.heap.size + 1, 1, none⟩ = some (.int .i64 0) := R2.cell 1
    have y2 : W.cell? ⟨w.heap.size + 1, 2, none⟩ = some (.int .i64 0) := R2.cell 2
    refine bodyPost_ret (v := .tuple #[.agg #[.slice none 0 0, .int .i64 0, .int .i64 0], .int .i64 40]) (by simp [results, Try.results13, go_sem, y0, y1, y2]) rfl ?_
    exact ⟨none, 0, 0, Jn.zero, 40, rfl, hT, rfl, Lib.hid (rwAt_nil _ _), hB2⟩
  · go_wp2
    generalize ((w1.setCell ⟨w.heap.size + 1, 0, none⟩ (.slice none 0 0)).setCell ⟨w.heap.size + 1, 1, none⟩ (.int .i64 0)).setCell ⟨w.heap.size + 1, 2, none⟩ (.int .i64 0) = W at R2 hB2 ⊢
    have y0 : W.cell? ⟨w.heap.size + 1, 0, none⟩ = some (.slice none 0 0) := R2.cell 0
    have y1 : W.cell? ⟨w.heap.size + 1, 1, none⟩ = some (.int .i64 0) := R2.cell 1
    have y2 : W.cell? ⟨w.heap.size + 1, 2, none⟩ = some (.int .i64 0) := R2.cell 2
    refine bodyPost_ret (v := .tuple #[.agg #[.slice none 0 0, .int .i64 0, .int .i64 0], .int .i64 1]) (by simp [results, Try.results13, go_sem, y0, y1, y2]) rfl ?_
    exact ⟨none, 0, 0, Jn.zero, 1, rfl, hT, rfl, Lib.hid (rwAt_nil _ _), hB2⟩

theorem jROpen_any (d : Dk) (Vs Vp : Value) (S : Nat → Prop) (w : World) (hD : DkAt w S Vs Vp d) : Calls Try.prog 13 #[d.v Vs Vp] w (RetJn (openT d) S w) := by
  obtain ⟨As, cs, rfl, _⟩ := hD.sectors.form
  obtain ⟨Ap, cp, rfl, _⟩ := hD.pending.form
  by_cases hc : d.checkT = 0
  · rcases hs : d.stopped with _ | _
    · by_cases hp : d.pending = []
      · have hok : d.okB = true := by
          rcases h : d.okB with _ | _
          · rw [Dk.checkT, h] at hc; exact absurd hc (by decide)
          · rfl
        obtain ⟨h1, h2, _, _, _, _, h7⟩ := okB_parts hok
        have := jROpen_go d As _ cs Ap _ cp _ _ S w (Lib.hid hD) rfl (Lib.hid hs) rfl rfl (Lib.hid hc) rfl (by rw [hp]; rfl) (Lib.hid h7) h2
        rw [Dk.v, hs]
        exact this
      · have := jROpen_no d As _ cs Ap _ cp _ _ 0 1 S w (Lib.hid hD) rfl (Lib.hid hs) (Lib.hid hc) (Lib.hid (by rw [openT, hc, hs]; simp [hp])) (.inr (.inr ⟨rfl, rfl, List.length_pos_iff.2 hp, rfl⟩))
        rw [Dk.v, hs]
        exact this
    · have := jROpen_no d As _ cs Ap _ cp _ _ 0 40 S w (Lib.hid hD) rfl (Lib.hid hs) (Lib.hid hc) (Lib.hid (by rw [openT, hc, hs]; simp)) (.inr (.inl ⟨rfl, rfl, rfl⟩))
      rw [Dk.v, hs]
      exact this
  · exact jROpen_no d As _ cs Ap _ cp _ _ d.checkT d.checkT S w (Lib.hid hD) rfl rfl rfl (Lib.hid (by rw [openT, if_pos hc])) (.inl ⟨hc, rfl⟩)

end Go.Proofs.Ythlidhfahaalgaa

/-
  What Append of chapter 5 is made of: Clip, Clone, appended rows, sectors of longer records. No condition but the lengths.
-/
namespace Go.Proofs.Ythlidhfahaalgaa
open Go.RowKit
attribute [local go_sem ↓ high] app_named cop_named

set_option maxRecDepth 100000 in
set_option maxHeartbeats 4000000 in
theorem jSectors_big (A : Option Addr) (n c : Nat) (w : World) (hn : n ≤ 9223372036854775000) : Calls Try.prog 35 #[.slice A n c] w fun e w' => e = .returned (.int .i64 (secT n : Nat)) ∧ w' = w := by
  have hm : (secT n : Int) = max 1 (((n : Int) + 112 - 1) / 112) := by unfold secT; omega
  rw [hm]
  go_enter Try.func35, Try.ntmps35
  go_wp2_with fail
  go_ret
  exact ⟨rfl, rfl⟩
set_option maxRecDepth 100000 in
set_option maxHeartbeats 4000000 in
theorem jRSectors_big (n : Nat) (w : World) (hn : n ≤ 9223372036854775000) : Calls Try.prog 39 #[.int .i64 n] w fun e w' => e = .returned (.int .i64 (secT n : Nat)) ∧ w' = w := by
  have hm : (secT n : Int) = max 1 (((n : Int) + 112 - 1) / 112) := by unfold secT; omega
  rw [hm]
  go_enter Try.func39, Try.ntmps39
  go_wp2_with fail
  go_ret
  exact ⟨rfl, rfl⟩
theorem jClip_any (l : List Bs) (A : Option Addr) (n c : Nat) (S : Nat → Prop) (w : World) (h : RwAt w S (.slice A n c) l) : Calls Try.prog 37 #[.slice A n c] w fun e w' => e = .returned (.slice A n n) ∧ Hid (RwAt w S (.slice A n n) l) ∧ w = w' := by
  obtain ⟨hf, g, ⟨A', c', hv, hm, hs⟩, hb⟩ := h
  cases hv
  have key : SlF (.slice A l.length l.length) → Hid (RwAt w S (.slice A l.length l.length) l) := fun h => ⟨h, g, ⟨A, l.length, rfl, hm, hs⟩, hb⟩
  rcases hf with h | ⟨a, n', c', h, hnc, hcm⟩
  · obtain ⟨rfl, hl, rfl⟩ : A = none ∧ l.length = 0 ∧ c = 0 := by simpa using h
    have K := key (.inl (by rw [hl]))
    clear key hs hb hm
    rw [hl] at K ⊢
    go_enter Try.func37, Try.ntmps37
    go_wp2
    go_ret
    exact ⟨rfl, K, rfl⟩
  · obtain ⟨rfl, hl, rfl⟩ : A = some a ∧ l.length = n' ∧ c = c' := by simpa using h
    have K := key (.inr ⟨a, _, _, rfl, Nat.le_refl _, by omega⟩)
    clear key hs hb hm
    unfold maxLen at hcm
    rw [hl] at K ⊢
    have h1 : (n' : Int) ≤ (c : Int) := by omega
    clear hl h hnc
    go_enter Try.func37, Try.ntmps37
    go_wp2
    go_ret
    exact ⟨rfl, K, rfl⟩
set_option maxRecDepth 100000 in
theorem jCloneB_any (l : Bs) (V : Value) (S : Nat → Prop) (w : World) (h : BsAt w S V l) (hn : l.length ≤ 1048576) : Calls Try.prog 38 #[V] w (RetOB l w) := by
  obtain ⟨hf, hs⟩ := h
  obtain ⟨A, c, rfl, hm⟩ := hs.form
  obtain ⟨i, E⟩ := elem_by
  rcases A with _ | A
  · have hl : l = [] := List.eq_nil_of_length_eq_zero (by have := hs.sl.none_zero.2; omega)
    subst hl
    have HR : Hid (RetOB [] w (.returned (.slice none 0 0)) w) := ⟨_, rfl, ownBs_nil _ _, Below.refl _ _⟩
    have he : ∀ w : World, (binOp .eql 35 (.slice none 0 c) (.slice none 0 0)).run Try.prog w = .ok (.bool true) w := fun _ => rfl
    have he2 : ∀ w : World, (binOp .eql 35 (.slice none (List.length ([] : Bs)) c) (.slice none 0 0)).run Try.prog w = .ok (.bool true) w := fun _ => rfl
    go_enter Try.func38, Try.ntmps38
    go_wp2
    go_ret
    exact HR.out
  · obtain ⟨v', w', hr, ho, hbel⟩ := run_clone E hs hf (fun k j hk _ => rfl) (by omega)
    have HR : Hid (RetOB l w (.returned v') w') := ⟨_, rfl, by unfold OwnBs; rw [← byV_flat]; exact ho, hbel⟩
    clear hf hs ho hbel
    unfold maxLen at hm
    generalize l.length = n at hr hm hn ⊢
    have he : ∀ w : World, (binOp .eql 35 (.slice (some A) n c) (.slice none 0 0)).run Try.prog w = .ok (.bool false) w := fun _ => rfl
    go_enter Try.func38, Try.ntmps38
    go_wp2
    go_ret
    exact HR.out

/-- A row appended to rows that have no room. -/
theorem run_clipApp {w : World} {S : Nat → Prop} {n bb : Nat} {A : Option Addr} {U : Value} {l : List Bs} {x : Bs} (h : RwAt w S (.slice A n n) l) (hX : Box w bb [U]) (hU : BsAt w S U x) (hl : n ≤ 4194304) :
    ∃ A' c' w', (appF #[22, 22] 22 #[.slice A n n, .slice (some ⟨bb, 0, none⟩) 1 1]).run Try.prog w = .ok (.slice A' (n + 1) c') w' ∧ RwAt w' (Grow S w) (.slice A' (n + 1) c') (l ++ [x]) ∧ Below w.heap.size w w' := by
  obtain ⟨i, E⟩ := elem_rw
  obtain ⟨hf, V, hs, hb⟩ := h
  have hnl : n = l.length := by
    obtain ⟨A', c', hv, _⟩ := hs.form
    cases hv; rfl
  have hx : Sl w w.heap.size 1 1 (fun _ _ => U) (.slice (some ⟨bb, 0, none⟩) 1 1) := ⟨_, _, rfl, by simp [maxLen], fun i hi => by
    obtain rfl : i = 0 := by omega
    refine ⟨bb, 0, rfl, hX.lt, fun j hj => ?_⟩
    obtain rfl : j = 0 := by omega
    exact hX.cell 0⟩
  rw [← hnl] at hs
  obtain ⟨v', w', hr, h1, h2, h3⟩ := run_app_p E 22 hs hf hx (.inr ⟨_, _, _, rfl, Nat.le_refl _, by simp [maxLen]⟩) (fun _ _ _ _ => bsAt_one hU) (.inl (by omega)) (by simp only [maxLen]; omega) (by omega)
  obtain ⟨A', c', rfl, _⟩ := h1.form
  refine ⟨A', c', w', hr, ⟨h2, fun i => if i < n then V i else U, ?_, fun j y hy => ?_⟩, h3⟩
  · rw [List.length_append, List.length_singleton, ← hnl]
    exact h1.congr fun i j _ _ => by dsimp only [cat]
  · dsimp only
    rcases Nat.lt_or_ge j l.length with hj | hj
    · rw [List.getElem?_append_left hj] at hy
      rw [if_pos (by omega)]
      exact ((hb j y hy).keep (Keeps.of h3)).weak fun b hb _ => .inl hb
    · rw [List.getElem?_append_right hj] at hy
      have h0 : j - l.length = 0 := by
        rcases Nat.eq_zero_or_pos (j - l.length) with h0 | h0
        · exact h0
        · rw [List.getElem?_eq_none (by simp; omega)] at hy; cases hy
      rw [h0] at hy
      obtain rfl : x = y := by simpa using hy
      rw [if_neg (by omega)]
      exact (hU.keep (Keeps.of h3)).weak fun b hb _ => .inl hb

/-- A row appended to an own row whose elements lie elsewhere. -/
theorem run_ownQ {w : World} {base bb : Nat} {Q : Nat → Prop} {v U : Value} {l : List Bs} {x : Bs} (ho : OwnRw w base Q v l) (hQ : ∀ b, Q b → b < base) (hX : Box w bb [U]) (hU : BsAt w Q U x) (hbase : base ≤ w.heap.size) (hl : l.length ≤ 4194304) :
    ∃ v' w', (appF #[22, 22] 22 #[v, .slice (some ⟨bb, 0, none⟩) 1 1]).run Try.prog w = .ok v' w' ∧ OwnRw w' base Q v' (l ++ [x]) ∧ Below base w w' := by
  obtain ⟨i, E⟩ := elem_rw
  obtain ⟨xs, ho, hb⟩ := ho
  have hxl : xs.length = l.length := by simpa using ho.1
  have hrow : ∀ k, v.ownBlock = some k → base ≤ k := by
    intro k hk
    rcases ho.2 with ⟨rfl, _⟩ | ⟨g, cap, cur, rfl, hbg, _⟩
    · cases hk
    · cases hk; exact hbg
  obtain ⟨v', w', hr, ho', hg, _, hown⟩ := run_append_own_at (P := Try.prog) (w := w) base 22 22 35 i (.slice none 0 0) 1 24 E.ht E.hi E.hz E.hsize E.hby E.hzs E.hsz v l.length xs ho ⟨bb, 0, none⟩ 1 1 [U] rfl (fun j u hu => by
    obtain rfl : j = 0 := by
      have := (List.getElem?_eq_some_iff.1 hu).1
      simpa using this
    rw [add_at, Nat.zero_add, hX.cell 0]
    exact hu) (fun u hu => by rw [List.mem_singleton.1 hu]; exact bsAt_one hU) (by simp only [maxLen]; omega) (by omega) hbase
  have key : ∀ {y : Bs} {u : Value}, BsAt w Q u y → BsAt w' Q u y := fun {y u} h => h.keep (Keeps.grown hg fun k hk hS => by have := hrow k hk; have := hQ k hS; omega)
  refine ⟨v', w', hr, ⟨xs ++ [U], by rw [List.length_append]; exact ho', fun j y u hy hu => ?_⟩, (Below.refl base w).grown hg hbase (fun k hk => hrow k hk)⟩
  rcases Nat.lt_or_ge j l.length with hj | hj
  · rw [List.getElem?_append_left hj] at hy
    rw [List.getElem?_append_left (by omega)] at hu
    exact key (hb j y u hy hu)
  · rw [List.getElem?_append_right hj] at hy
    rw [List.getElem?_append_right (by omega), hxl] at hu
    have h0 : j - l.length = 0 := by
      rcases Nat.eq_zero_or_pos (j - l.length) with h0 | h0
      · exact h0
      · rw [List.getElem?_eq_none (by simp; omega)] at hy; cases hy
    rw [h0] at hy hu
    obtain rfl : x = y := by simpa using hy
    obtain rfl : U = u := by simpa using hu
    exact key hU

theorem flat_xs {xs : List Value} {n : Nat} (h : xs.length = n) : flat n 1 (fun i _ => xs.getD i undef) = xs := by
  rw [flat_one]
  apply List.ext_getElem?
  intro j
  rw [List.getElem?_map]
  rcases Nat.lt_or_ge j n with hj | hj
  · rw [List.getElem?_range hj, Option.map_some, List.getD_eq_getElem?_getD, List.getElem?_eq_getElem (by omega)]; rfl
  · rw [List.getElem?_eq_none (by simp; omega), List.getElem?_eq_none (by omega)]; rfl
/-- Rows appended to own rows whose elements lie elsewhere. -/
theorem run_appRows {w : World} {base : Nat} {Q : Nat → Prop} {v x : Value} {l r : List Bs} (ho : OwnRw w base Q v l) (hQ : ∀ b, Q b → b < base) (hx : RwAt w Q x r) (hbase : base ≤ w.heap.size) (hl : l.length + r.length ≤ 4194304) :
    ∃ v' w', (appF #[22, 22] 22 #[v, x]).run Try.prog w = .ok v' w' ∧ OwnRw w' base Q v' (l ++ r) ∧ Below base w w' := by
  obtain ⟨i, E⟩ := elem_rw
  obtain ⟨xs, ho, hb⟩ := ho
  obtain ⟨hxf, V, hs, hr⟩ := hx
  have hxl : xs.length = l.length := by simpa using ho.1
  have hrow : ∀ k, v.ownBlock = some k → base ≤ k := by
    intro k hk
    rcases ho.2 with ⟨rfl, _⟩ | ⟨g, cap, cur, rfl, hbg, _⟩
    · cases hk
    · cases hk; exact hbg
  have ho1 := ho
  rw [← flat_xs hxl] at ho1
  obtain ⟨v', w', hrun, ho', hg⟩ := run_app_own E 22 ho1 hs.sl hxf (fun k j hk hj => by
    exact bsAt_one (hr k _ (List.getElem?_eq_getElem hk))) (by simp only [maxLen]; omega) (by omega) hbase
  have key : ∀ {y : Bs} {u : Value}, BsAt w Q u y → BsAt w' Q u y := fun {y u} h => h.keep (Keeps.grown hg fun k hk hS => by have := hrow k hk; have := hQ k hS; omega)
  rw [flat_cat _ _ _ (by decide), flat_xs hxl, flat_one] at ho'
  refine ⟨v', w', hrun, ⟨_, by rw [List.length_append]; exact ho', fun j y u hy hu => ?_⟩, (Below.refl base w).grown hg hbase (fun k hk => hrow k hk)⟩
  rcases Nat.lt_or_ge j l.length with hj | hj
  · rw [List.getElem?_append_left hj] at hy
    rw [List.getElem?_append_left (by omega)] at hu
    exact key (hb j y u hy hu)
  · rw [List.getElem?_append_right hj] at hy
    have hjr := (List.getElem?_eq_some_iff.1 hy).1
    rw [List.getElem?_append_right (by omega), hxl, List.getElem?_map, List.getElem?_range hjr] at hu
    cases hu
    exact key (hr _ y hy)

end Go.Proofs.Ythlidhfahaalgaa
