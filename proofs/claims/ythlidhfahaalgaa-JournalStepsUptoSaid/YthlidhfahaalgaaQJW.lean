/- Same of the reference of chapter 5, few of its law, numeral and Sector. No condition but the lengths. -/
import Derived.Test.YthlidhfahaalgaaQJP
import Derived.Test.YthlidhfahaalgaaQDX
import Derived.Test.YthlidhfahaalgaaQJM
set_option linter.unusedVariables false
set_option linter.unusedSimpArgs false
set_option maxRecDepth 100000
set_option maxHeartbeats 8000000
namespace Go.Proofs.Ythlidhfahaalgaa
open Go.RowKit
attribute [local go_sem ↓ high] app_named cop_named
def sameJ (a b : Jn) : Bool := decide (a.many = b.many) && (decide (a.synced = b.synced) && decide (a.records = b.records))
theorem jRSame_any (a b : Jn) (A B : Option Addr) (n c m d : Nat) (S T : Nat → Prop) (w : World) (ha : Hid (RwAt w S (.slice A n c) a.records)) (hb : Hid (RwAt w T (.slice B m d) b.records)) (hn : Hid (a.records.length = n)) (hm : Hid (b.records.length = m)) (am as' bm bs' : Int) (h1 : Hid (a.many = am)) (h2 : Hid (a.synced = as')) (h3 : Hid (b.many = bm)) (h4 : Hid (b.synced = bs')) (r : Bool) (hr : Hid (sameJ a b = r)) :
    Calls Try.prog 14 #[.agg #[.slice A n c, .int .i64 am, .int .i64 as'], .agg #[.slice B m d, .int .i64 bm, .int .i64 bs']] w fun e w' => e = .returned (.bool r) ∧ Below w.heap.size w w' := by
  have hB := ((Below.refl w.heap.size w).alloc (Nat.le_refl _) (.cells #[.slice A n c, .int .i64 am, .int .i64 as'] 29)).alloc (by simp) (.cells #[.slice B m d, .int .i64 bm, .int .i64 bs'] 29)
  by_cases e1 : am = bm
  rotate_left
  · obtain rfl : r = false := by rw [← hr.out, sameJ, decide_eq_false (by rw [h1.out, h3.out]; exact e1), Bool.false_and]
    have k1 : (am == bm) = false := by simp [e1]
    clear ha hb hn hm h1 h2 h3 h4 hr e1
    go_enter Try.func14, Try.ntmps14
    go_wp2
    go_ret
    exact ⟨rfl, hB⟩
  subst e1
  by_cases e2 : as' = bs'
  rotate_left
  · obtain rfl : r = false := by rw [← hr.out, sameJ, decide_eq_false (p := a.synced = b.synced) (by rw [h2.out, h4.out]; exact e2), Bool.false_and, Bool.and_false]
    have k1 : (as' == bs') = false := by simp [e2]
    clear ha hb hn hm h1 h2 h3 h4 hr e2
    go_enter Try.func14, Try.ntmps14
    go_wp2
    go_ret
    exact ⟨rfl, hB⟩
  subst e2
  have hln : n ≤ 9223372036854775807 := by obtain ⟨_, _, e, h⟩ := ha.out.form; rw [← hn.out]; simpa only [maxLen] using h
  have hlm : m ≤ 9223372036854775807 := by obtain ⟨_, _, e, h⟩ := hb.out.form; rw [← hm.out]; simpa only [maxLen] using h
  have C := jRSameRecs_any a.records b.records A B n c m d S T _ (Lib.hid (ha.out.keep (Keeps.of hB))) (Lib.hid (hb.out.keep (Keeps.of hB))) hn hm hln hlm r (Lib.hid (by rw [← hr.out, sameJ, decide_eq_true (p := a.many = b.many) (by rw [h1.out, h3.out]), decide_eq_true (p := a.synced = b.synced) (by rw [h2.out, h4.out])]; rfl))
  clear ha hb hn hm h1 h2 h3 h4 hr
  go_enter Try.func14, Try.ntmps14
  go_wp2_with fail
  refine C.mono ?_
  rintro e w1 ⟨rfl, hb1⟩
  have HE := Lib.hid (hB.trans (hb1.mono hB.size))
  clear hb1 hB C
  rcases r with _ | _
  all_goals
    go_wp2
    go_ret
    exact ⟨rfl, HE.out⟩
def RetFew (ns np : Nat) (l : List Bs) (w : World) (e : Ending) (w' : World) : Prop := ∃ t, e = .returned (.bool t) ∧ Hid (t = true → ns ≤ 40 ∧ np ≤ 40 ∧ (sumB l ≤ 4194304 → sumB l ≤ 4000)) ∧ Below w.heap.size w w'
theorem sumB_take_succ {l : List Bs} {k : Nat} (hk : k < l.length) : sumB (l.take (k + 1)) = sumB (l.take k) + ((l[k]).length + 1) := by
  rw [List.take_succ_eq_append_getElem hk, sumB_append]
  simp [sumB]
theorem jFew_any (As : Option Addr) (ns cs : Nat) (Ap : Option Addr) (np cp : Nat) (dl : Int) (ds : Bool) (l : List Bs) (A : Option Addr) (n c : Nat) (T : Nat → Prop) (w : World)
    (hR : Hid (RwAt w T (.slice A n c) l)) (hn : Hid (l.length = n)) (hn2 : n ≤ 9223372036854775807) :
    Calls Try.prog 11 #[.agg #[.slice As ns cs, .slice Ap np cp, .int .i64 dl, .bool ds], .slice A n c] w (RetFew ns np l w) := by
  have hB := (Below.refl w.heap.size w).alloc (Nat.le_refl _) (.cells #[.slice As ns cs, .slice Ap np cp, .int .i64 dl, .bool ds] 25)
  have X := Box.new w [.slice As ns cs, .slice Ap np cp, .int .i64 dl, .bool ds] 25
  go_enter Try.func11, Try.ntmps11
  go_wp2
  go_loopw [5, 10] (fun s5 s10 wi => ∃ (k : Nat) (z : Int), k ≤ n ∧ s10 = .int .i64 (k : Int) ∧ s5 = .int .i64 z ∧ Hid (sumB l ≤ 4194304 → z = (sumB (l.take k) : Nat)) ∧ wi = w.alloc (.cells #[.slice As ns cs, .slice Ap np cp, .int .i64 dl, .bool ds] 25)) (fun _ s10 _ => n - (intOf s10).toNat)
  case atStart => exact ⟨0, 0, Nat.zero_le _, rfl, rfl, Lib.hid fun _ => rfl, rfl⟩
  case round =>
    obtain ⟨k, z, hk, rfl, rfl, hz, rfl⟩ := hrel
    rcases Nat.lt_or_ge k n with hlt | hge
    · obtain ⟨b, o, Ar, nr, cr, rfl, hbz, hbc, hbs⟩ := row_at (hR.out.keep (Keeps.of hB)) (show k < l.length by rw [hn.out]; exact hlt)
      have hlr : (l.getD k []).length = nr := by
        obtain ⟨A', c', e, _⟩ := hbs.form
        cases e; rfl
      have hlk : l.getD k [] = l[k]'(by rw [hn.out]; exact hlt) := by rw [List.getD_eq_getElem?_getD, List.getElem?_eq_getElem]; rfl
      have hz2 : Hid (sumB l ≤ 4194304 → wrap64 (z + wrap64 (1 + (nr : Int))) = (sumB (l.take (k + 1)) : Nat)) := Lib.hid fun hs => by
        have h1 := sumB_take_succ (l := l) (k := k) (by rw [hn.out]; exact hlt)
        have h2 := sumB_take_le l (k + 1)
        rw [← hlk, hlr] at h1
        rw [hz.out hs, IntWalk.wrap64_in (1 + (nr : Int)) (by omega), IntWalk.wrap64_in _ (by omega)]
        omega
      have i0 : (0 : Int) ≤ (k : Int) := by omega
      have i1 : (k : Int) < (n : Int) := by omega
      clear hlk hlr hbs hz
      go_wp2
      exact ⟨⟨k + 1, _, by omega, by go_num, rfl, hz2, trivial⟩, by simp [intOf] <;> omega⟩
    · obtain rfl : k = n := by omega
      have HZ := Lib.hid (fun h => hz.out h)
      have hEnd : Hid (sumB l ≤ 4194304 → (z ≤ 4000 ↔ sumB l ≤ 4000)) := Lib.hid fun hs => by
        rw [hz.out hs, List.take_of_length_le (by rw [hn.out]; exact Nat.le_refl k)]
        omega
      have x0 : (w.alloc (.cells #[.slice As ns cs, .slice Ap np cp, .int .i64 dl, .bool ds] 25)).cell? ⟨w.heap.size, 0, none⟩ = some (.slice As ns cs) := X.cell 0
      have x1 : (w.alloc (.cells #[.slice As ns cs, .slice Ap np cp, .int .i64 dl, .bool ds] 25)).cell? ⟨w.heap.size, 1, none⟩ = some (.slice Ap np cp) := X.cell 1
      clear hz hR HZ
      by_cases q1 : ns ≤ 40
      rotate_left
      · have d1 : decide ((ns : Int) ≤ 40) = false := by simp; omega
        go_wp2
        go_ret
        exact ⟨false, rfl, Lib.hid (fun h => (by cases h)), hB⟩
      have d1 : decide ((ns : Int) ≤ 40) = true := by simp; omega
      by_cases q2 : np ≤ 40
      rotate_left
      · have d2 : decide ((np : Int) ≤ 40) = false := by simp; omega
        go_wp2
        go_ret
        exact ⟨false, rfl, Lib.hid (fun h => (by cases h)), hB⟩
      have d2 : decide ((np : Int) ≤ 40) = true := by simp; omega
      by_cases q3 : z ≤ 4000
      · have d3 : decide (z ≤ 4000) = true := by simp [q3]
        go_wp2
        go_ret
        exact ⟨true, rfl, Lib.hid (fun _ => ⟨q1, q2, fun hs => (hEnd.out hs).1 q3⟩), hB⟩
      · have d3 : decide (z ≤ 4000) = false := by simp; omega
        go_wp2
        go_ret
        exact ⟨false, rfl, Lib.hid (fun h => (by cases h)), hB⟩
end Go.Proofs.Ythlidhfahaalgaa
namespace Go.Proofs.Ythlidhfahaalgaa
open Go.RowKit
attribute [local go_sem ↓ high] app_named cop_named
theorem OwnBs.old {w : World} {base : Nat} {v : Value} {l : Bs} (h : OwnBs w base v l) (hm : l.length ≤ maxLen) : BsAt w (fun b => b < w.heap.size) v l := (h.bs hm).weak fun _ _ hl => hl
theorem BsAt.more {w w' : World} {v : Value} {l : Bs} (h : BsAt w (fun b => b < w.heap.size) v l) (hb : Below w.heap.size w w') : BsAt w' (fun b => b < w'.heap.size) v l := (h.keep (Keeps.of hb)).weak fun _ _ hl => hl
theorem box_all {w : World} {a n : Nat} {l : Bs} (h : Box w a (byV l)) (hn : l.length = n) (hm : n ≤ 128) : BsAt w (fun b => b = a) (.slice (some ⟨a, 0, none⟩) n n) l := by
  have := box_bs h 0 n n hn (by omega) (Nat.le_refl _) hm
  rwa [List.drop_zero, List.take_of_length_le (by omega)] at this
end Go.Proofs.Ythlidhfahaalgaa
namespace Go.Proofs.Ythlidhfahaalgaa
open Go.RowKit
attribute [local go_sem ↓ high] app_named cop_named
def kindK (b e : Bool) : UInt8 := (if b = true then 1 else 0) + (if e = true then 2 else 0)
end Go.Proofs.Ythlidhfahaalgaa
namespace Go.Proofs.Ythlidhfahaalgaa
open Go.RowKit
def Out (L : List Nat) : Nat → Prop := fun b => b ∉ L
def InW (L : List Nat) (w : World) : Prop := ∀ a ∈ L, a < w.heap.size
theorem InW.nil (w : World) : InW [] w := fun a h => by cases h
theorem InW.later {L : List Nat} {w w' : World} (h : InW L w) (hb : w.heap.size ≤ w'.heap.size) : InW L w' := fun a ha => Nat.lt_of_lt_of_le (h a ha) hb
theorem InW.cons {L : List Nat} {w : World} {a : Nat} (h : InW L w) (ha : a < w.heap.size) : InW (a :: L) w := fun b hb => by
  rcases List.mem_cons.1 hb with rfl | hb
  · exact ha
  · exact h b hb
theorem Out.grow {L : List Nat} {w : World} (h : InW L w) {b : Nat} (hb : Grow (Out L) w b) : Out L b := by
  rcases hb with hb | hb
  · exact hb
  · intro hL; have := h b hL; omega
section
variable {w w' : World} {L : List Nat} {Vs Vp : Value} {d : Dk}
theorem dk_later (h : Hid (DkAt w (Out L) Vs Vp d)) (hb : Below w.heap.size w w') : Hid (DkAt w' (Out L) Vs Vp d) := Lib.hid (h.out.keep (Keeps.of hb))
theorem dk_set {a : Nat} (ha : a ∈ L) (h : Hid (DkAt w (Out L) Vs Vp d)) (o : Nat) (u : Value) : Hid (DkAt (w.setCell ⟨a, o, none⟩ u) (Out L) Vs Vp d) := Lib.hid (h.out.keep (Keeps.set w (a := ⟨a, o, none⟩) (fun hc => hc ha) u))
theorem dk_more {a : Nat} (ha : w.heap.size ≤ a) (h : Hid (DkAt w (Out L) Vs Vp d)) : Hid (DkAt w (Out (a :: L)) Vs Vp d) := Lib.hid (h.out.weak fun b hb hl hc => by
  rcases List.mem_cons.1 hc with rfl | hc
  · omega
  · exact hb hc)
theorem bs_later {V : Value} {b : Bs} (h : Hid (BsAt w (Out L) V b)) (hb : Below w.heap.size w w') : Hid (BsAt w' (Out L) V b) := Lib.hid (h.out.keep (Keeps.of hb))
theorem bs_set {V : Value} {b : Bs} {a : Nat} (ha : a ∈ L) (h : Hid (BsAt w (Out L) V b)) (o : Nat) (u : Value) : Hid (BsAt (w.setCell ⟨a, o, none⟩ u) (Out L) V b) := Lib.hid (h.out.keep (Keeps.set w (a := ⟨a, o, none⟩) (fun hc => hc ha) u))
end
theorem RetDk.is {t : Dk × Int} {L : List Nat} {w w' : World} {e : Ending} {m : Dk} {er : Int} {ns np : Nat} {dl : Int} {ds : Bool} (hh : RetDk t (Out L) w e w') (hL : InW L w) (ht : Hid (t = (m, er))) (h1 : Hid (m.sectors.length = ns)) (h2 : Hid (m.pending.length = np)) (h3 : Hid (m.left = dl)) (h4 : Hid (m.stopped = ds)) :
    ∃ (As : Option Addr) (cs : Nat) (Ap : Option Addr) (cp : Nat), e = .returned (.tuple #[.agg #[.slice As ns cs, .slice Ap np cp, .int .i64 dl, .bool ds], .int .i64 er]) ∧ Hid (DkAt w' (Out L) (.slice As ns cs) (.slice Ap np cp) m) ∧ Below w.heap.size w w' := by
  obtain ⟨Vs, Vp, m', er', he, ht', hD, hb⟩ := hh
  have h5 := ht'.symm.trans ht.out
  injection h5 with h5 h6
  subst h5 h6
  obtain ⟨As, cs, rfl, _⟩ := hD.out.sectors.form
  obtain ⟨Ap, cp, rfl, _⟩ := hD.out.pending.form
  rw [h1.out, h2.out] at hD
  rw [Dk.v, h1.out, h2.out, h3.out, h4.out] at he
  exact ⟨As, cs, Ap, cp, he, Lib.hid (hD.out.weak fun b hb _ => Out.grow hL hb), hb⟩
theorem RetD1.is {t : Dk} {L : List Nat} {w w' : World} {e : Ending} {ns np : Nat} {dl : Int} {ds : Bool} (hh : RetD1 t (Out L) w e w') (hL : InW L w) (h1 : Hid (t.sectors.length = ns)) (h2 : Hid (t.pending.length = np)) (h3 : Hid (t.left = dl)) (h4 : Hid (t.stopped = ds)) :
    ∃ (As : Option Addr) (cs : Nat) (Ap : Option Addr) (cp : Nat), e = .returned (.agg #[.slice As ns cs, .slice Ap np cp, .int .i64 dl, .bool ds]) ∧ Hid (DkAt w' (Out L) (.slice As ns cs) (.slice Ap np cp) t) ∧ Below w.heap.size w w' := by
  obtain ⟨Vs, Vp, m', he, ht', hD, hb⟩ := hh
  have h5 := ht'.out
  subst h5
  obtain ⟨As, cs, rfl, _⟩ := hD.out.sectors.form
  obtain ⟨Ap, cp, rfl, _⟩ := hD.out.pending.form
  rw [h1.out, h2.out] at hD
  rw [Dk.v, h1.out, h2.out, h3.out, h4.out] at he
  exact ⟨As, cs, Ap, cp, he, Lib.hid (hD.out.weak fun b hb _ => Out.grow hL hb), hb⟩
theorem RetBs.is {t : Bs × Int} {L : List Nat} {w w' : World} {e : Ending} {b : Bs} {er : Int} {n : Nat} (hh : RetBs t (Out L) w e w') (hL : InW L w) (ht : Hid (t = (b, er))) (h1 : Hid (b.length = n)) :
    ∃ (A : Option Addr) (c : Nat), e = .returned (.tuple #[.slice A n c, .int .i64 er]) ∧ Hid (BsAt w' (Out L) (.slice A n c) b) ∧ Below w.heap.size w w' := by
  obtain ⟨V, m', er', he, ht', hD, hb⟩ := hh
  have h5 := ht'.symm.trans ht.out
  injection h5 with h5 h6
  subst h5 h6
  obtain ⟨A, c, rfl, _⟩ := hD.out.form
  rw [h1.out] at hD he
  exact ⟨A, c, he, Lib.hid (hD.out.weak fun b hb _ => Out.grow hL hb), hb⟩
structure DkIs (d : Dk) (l : Int) (s : Bool) : Prop where
  left : d.left = l
  stopped : d.stopped = s
section
variable {d : Dk} {Vs Vp : Value} {L : List Nat} {w : World} {l : Int} {s : Bool}
theorem dSame_is {a : Dk} {Ua Ub : Value} {l' : Int} {s' : Bool} {t : Bool} (hD : Hid (DkAt w (Out L) Vs Vp d)) (hE : Hid (DkAt w (Out L) Ua Ub a)) (hd : DkIs d l s) (ha : DkIs a l' s') (ht : Hid (sameD d a = t)) : Calls Try.prog 23 #[.agg #[Vs, Vp, .int .i64 l, .bool s], .agg #[Ua, Ub, .int .i64 l', .bool s']] w fun e w' => e = .returned (.bool t) ∧ Below w.heap.size w w' := by
  have := dSame_any d a Vs Vp Ua Ub (Out L) (Out L) w hD.out hE.out
  rwa [Dk.v, Dk.v, hd.left, hd.stopped, ha.left, ha.stopped, ht.out] at this
end
end Go.Proofs.Ythlidhfahaalgaa
namespace Go.Proofs.Ythlidhfahaalgaa
open Go.RowKit
attribute [local go_sem ↓ high] app_named cop_named
end Go.Proofs.Ythlidhfahaalgaa
namespace Go.Proofs.Ythlidhfahaalgaa
open Go.RowKit
theorem okB_of {d : Dk} (h1 : 1 ≤ d.sectors.length) (h2 : d.sectors.length ≤ 4096) (h3 : d.pending.length ≤ 4096) (h4 : -1 ≤ d.left) (h5 : d.left ≤ 65536) (h6 : ∀ x ∈ d.pending, 0 ≤ x.at' ∧ x.at' < (d.sectors.length : Int) ∧ x.data.length = 128) (h7 : ∀ x ∈ d.sectors, x.length = 128) : d.okB = true := by
  simp only [Dk.okB, boundsB, wrB, secB, Bool.and_eq_true, decide_eq_true_eq, List.all_eq_true]
  exact ⟨⟨h1, h2, h3, h4, h5⟩, fun x hx => ⟨⟨(h6 x hx).1, (h6 x hx).2.1⟩, (h6 x hx).2.2⟩, h7⟩
theorem runs_of {d : Dk} (h : d.okB = true) (hs : d.stopped = false) : d.runs = true := by rw [runs_eq, h, hs]; rfl
theorem hasB_of {d : Dk} {i : Int} (h1 : 0 ≤ i) (h2 : i < (d.sectors.length : Int)) : d.hasB i = true := by rw [Dk.hasB, decide_eq_true h1, decide_eq_true h2]; rfl
theorem padTo_full {b : Bs} (h : b.length = 128) : padTo b = b := by rw [padTo, h]; simp
def Dk.put (d : Dk) (i : Int) (b : Bs) : Dk := ⟨d.sectors, d.pending ++ [⟨i, padTo b⟩], d.left, d.stopped⟩
theorem write_eq {d : Dk} {i : Int} {b : Bs} (hr : d.runs = true) (hh : d.hasB i = true) (hb : b.length ≤ 128) (hp : d.pending.length ≠ 4096) : writeT d i b = (d.put i b, 0) := by rw [writeT, if_pos ⟨hr, hh⟩, if_pos hb, if_neg hp]; rfl
theorem sync_tear {d : Dk} (hr : d.runs = true) (ht : tearB d = true) : syncT d = (⟨tornS d, [], 0, true⟩, 40) := by rw [syncT, if_pos hr, if_pos ht]
def Dk.synced (d : Dk) : Dk := ⟨perf d.sectors d.pending, [], if 0 ≤ d.left then d.left - (d.pending.length : Int) else d.left, false⟩
theorem sync_go {d : Dk} (hr : d.runs = true) (ht : tearB d = false) : syncT d = (d.synced, 0) := by rw [syncT, if_pos hr, if_neg (by rw [ht]; simp)]; rfl
end Go.Proofs.Ythlidhfahaalgaa
namespace Go.Proofs.Ythlidhfahaalgaa
open Go.RowKit
def piece (b : Bs) (j : Nat) : Bs := (b.drop (112 * j)).take 112
def pieceW (g a : Nat) (b : Bs) (j : Nat) : Wr := ⟨((a + j : Nat) : Int), encT g (a + j) (kindK (decide (j = 0)) (decide (j + 1 = secT b.length))) (piece b j)⟩
def recW (g a : Nat) (b : Bs) : List Wr := (List.range (secT b.length)).map (pieceW g a b)
def recsW (g : Nat) : Nat → List Bs → List Wr
  | _, [] => []
  | a, b :: r => recW g a b ++ recsW g (a + secT b.length) r
def Dk.adds (d : Dk) (ws : List Wr) : Dk := ⟨d.sectors, d.pending ++ ws, d.left, d.stopped⟩
theorem piece_length (b : Bs) (j : Nat) : (piece b j).length = min 112 (b.length - 112 * j) := by simp [piece]
theorem piece_le (b : Bs) (j : Nat) : (piece b j).length ≤ 112 := by rw [piece_length]; omega
theorem recW_length (g a : Nat) (b : Bs) : (recW g a b).length = secT b.length := by simp [recW]
theorem usedT_cons (b : Bs) (l : List Bs) : usedT (b :: l) = secT b.length + usedT l := by
  have H : ∀ (n : Nat) (l : List Bs), l.foldl (fun n b => n + secT b.length) n = n + usedT l := by
    intro n l
    induction l generalizing n with
    | nil => rfl
    | cons x l ih => rw [usedT, List.foldl_cons, List.foldl_cons, ih, ih (0 + secT x.length)]; omega
  rw [usedT, List.foldl_cons, H]
  omega
theorem usedT_append (a b : List Bs) : usedT (a ++ b) = usedT a + usedT b := by
  induction a with
  | nil => simp [usedT]
  | cons x a ih => rw [List.cons_append, usedT_cons, usedT_cons, ih]; omega
theorem recsW_length (g a : Nat) (l : List Bs) : (recsW g a l).length = usedT l := by
  induction l generalizing a with
  | nil => rfl
  | cons b l ih => rw [recsW, List.length_append, recW_length, ih, usedT_cons]
theorem recsW_append (g a : Nat) (l r : List Bs) : recsW g a (l ++ r) = recsW g a l ++ recsW g (a + usedT l) r := by
  induction l generalizing a with
  | nil => simp [recsW, usedT]
  | cons b l ih => rw [List.cons_append, recsW, recsW, ih, usedT_cons, List.append_assoc, Nat.add_assoc]
theorem recsW_take_succ {g a : Nat} {l : List Bs} {i : Nat} (hi : i < l.length) : recsW g a (l.take (i + 1)) = recsW g a (l.take i) ++ recW g (a + usedT (l.take i)) l[i] := by
  rw [List.take_succ_eq_append_getElem hi, recsW_append]
  simp [recsW]
theorem recW_take_succ {g a : Nat} {b : Bs} {j : Nat} (hj : j < secT b.length) : (recW g a b).take (j + 1) = (recW g a b).take j ++ [pieceW g a b j] := by
  rw [List.take_succ_eq_append_getElem (by rw [recW_length]; exact hj)]
  simp [recW]
theorem recW_mem {g a : Nat} {b : Bs} {x : Wr} (h : x ∈ recW g a b) : (a : Int) ≤ x.at' ∧ x.at' < ((a + secT b.length : Nat) : Int) ∧ x.data.length = 128 := by
  obtain ⟨j, hj, rfl⟩ := List.mem_map.1 h
  have hj := List.mem_range.1 hj
  exact ⟨by simp only [pieceW]; omega, by simp only [pieceW]; omega, encT_length _ _ _ (piece_le _ _)⟩
theorem recsW_mem {g a : Nat} {l : List Bs} {x : Wr} (h : x ∈ recsW g a l) : (a : Int) ≤ x.at' ∧ x.at' < ((a + usedT l : Nat) : Int) ∧ x.data.length = 128 := by
  induction l generalizing a with
  | nil => cases h
  | cons b l ih =>
    rw [recsW] at h
    have hu := usedT_cons b l
    rcases List.mem_append.1 h with h | h
    · obtain ⟨h1, h2, h3⟩ := recW_mem h
      exact ⟨h1, by omega, h3⟩
    · obtain ⟨h1, h2, h3⟩ := ih h
      exact ⟨by omega, by omega, h3⟩
theorem adds_nil (d : Dk) : d.adds [] = d := by rw [Dk.adds, List.append_nil]
theorem adds_ok {d : Dk} {ws : List Wr} (h : d.okB = true) (hp : d.pending = []) (hl : ws.length ≤ 4096) (hw : ∀ x ∈ ws, 0 ≤ x.at' ∧ x.at' < (d.sectors.length : Int) ∧ x.data.length = 128) : (d.adds ws).okB = true := by
  obtain ⟨h1, h2, h3, h4, h5, h6, h7⟩ := okB_parts h
  refine okB_of h1 h2 ?_ h4 h5 ?_ h7
  · rw [Dk.adds, hp]; simpa using hl
  · rw [Dk.adds, hp]; simpa using hw
theorem adds_write {d : Dk} {ws : List Wr} {i : Nat} {b : Bs} (h : (d.adds ws).okB = true) (hs : d.stopped = false) (hp : d.pending = []) (hl : ws.length < 4096) (hi : i < d.sectors.length) (hb : b.length = 128) :
    writeT (d.adds ws) (i : Int) b = (d.adds (ws ++ [⟨(i : Int), b⟩]), 0) := by
  rw [write_eq (runs_of h hs) (hasB_of (d := d.adds ws) (by omega) (by simp only [Dk.adds]; omega)) (by omega) (by simp only [Dk.adds, hp, List.nil_append]; omega), Dk.put, padTo_full hb, Dk.adds, Dk.adds, List.append_assoc]
def syncJ (l : Jn) (d : Dk) : Jn × Dk × Int :=
  if l.okB = true then
    (if d.checkT ≠ 0 then (Jn.zero, Dk.zero, d.checkT)
    else if d.stopped = true then (Jn.zero, Dk.zero, 40)
    else if l.many ≠ (d.sectors.length : Int) ∨ d.pending ≠ [] then (Jn.zero, Dk.zero, 1)
    else if recordsT d.sectors ≠ l.records.take l.synced.toNat ∨ 4294967295 < genM d.sectors + 1 then (Jn.zero, Dk.zero, 50)
    else if l.synced = (l.records.length : Int) then (l, d, 0)
    else (fun y : Dk × Int => if y.2 = 0 then (⟨l.records, l.many, (l.records.length : Int)⟩, y.1, 0) else (Jn.zero, y.1, y.2))
      (syncT (d.adds (recsW (genM d.sectors + 1) (usedT (l.records.take l.synced.toNat)) (l.records.drop l.synced.toNat)))))
  else (Jn.zero, Dk.zero, 1)
def RetJD (t : Jn × Dk × Int) (S : Nat → Prop) (w : World) (e : Ending) (w' : World) : Prop := ∃ (A : Option Addr) (n c : Nat) (m : Jn) (Vs Vp : Value) (y : Dk) (er : Int),
  e = .returned (.tuple #[.agg #[.slice A n c, .int .i64 m.many, .int .i64 m.synced], .agg #[Vs, Vp, .int .i64 y.left, .bool y.stopped], .int .i64 er]) ∧ Hid (t = (m, y, er)) ∧ Hid (m.records.length = n) ∧ Hid (RwAt w' (Grow S w) (.slice A n c) m.records) ∧ Hid (DkAt w' (Grow S w) Vs Vp y) ∧ Below w.heap.size w w'
end Go.Proofs.Ythlidhfahaalgaa
namespace Go.Proofs.Ythlidhfahaalgaa
open Go.RowKit
def Consec (a : Nat) (ws : List Wr) : Prop := ∀ j x, ws[j]? = some x → x.at' = ((a + j : Nat) : Int)
theorem Consec.tail {a : Nat} {x : Wr} {ws : List Wr} (h : Consec a (x :: ws)) : Consec (a + 1) ws := fun j y hy => by
  have := h (j + 1) y (by simpa using hy)
  omega
theorem perf_out {ws : List Wr} : ∀ {S : List Bs} {a i : Nat}, Consec a ws → (i < a ∨ a + ws.length ≤ i) → (perf S ws)[i]? = S[i]? := by
  induction ws with
  | nil => intro S a i _ _; rfl
  | cons x ws ih =>
    intro S a i hc hi
    rw [perf_cons, ih hc.tail (by simp only [List.length_cons] at hi; omega)]
    have h0 := hc 0 x rfl
    rw [List.getElem?_set_ne (by simp only [List.length_cons] at hi; omega)]
theorem perf_in {ws : List Wr} : ∀ {S : List Bs} {a j : Nat} {x : Wr}, Consec a ws → a + ws.length ≤ S.length → ws[j]? = some x → (perf S ws)[a + j]? = some x.data := by
  induction ws with
  | nil => intro S a j x _ _ h; cases h
  | cons y ws ih =>
    intro S a j x hc hl hx
    simp only [List.length_cons] at hl
    rw [perf_cons]
    rcases j with _ | j
    · have h0 := hc 0 y rfl
      rw [perf_out hc.tail (by omega)]
      simp only [List.getElem?_cons_zero, Option.some.injEq] at hx
      subst hx
      have : y.at'.toNat = a := by omega
      rw [this, Nat.add_zero, List.getElem?_set_self (by omega)]
    · rw [show a + (j + 1) = a + 1 + j by omega]
      exact ih hc.tail (by rw [List.length_set]; omega) (by simpa using hx)
theorem Consec.append {a : Nat} {l r : List Wr} (hl : Consec a l) (hr : Consec (a + l.length) r) : Consec a (l ++ r) := fun j x h => by
  rw [List.getElem?_append] at h
  split at h
  · exact hl j x h
  · have := hr _ x h
    omega
theorem recW_get {g a : Nat} {b : Bs} {j : Nat} (hj : j < secT b.length) : (recW g a b)[j]? = some (pieceW g a b j) := by
  simp [recW, hj]
theorem recW_consec (g a : Nat) (b : Bs) : Consec a (recW g a b) := fun j x h => by
  have hj : j < secT b.length := by
    have := (List.getElem?_eq_some_iff.1 h).1
    rwa [recW_length] at this
  rw [recW_get hj] at h
  cases h
  rfl
theorem recsW_consec (g : Nat) (N : List Bs) : ∀ a, Consec a (recsW g a N) := by
  induction N with
  | nil => intro a j x h; cases h
  | cons b N ih => intro a; exact (recW_consec g a b).append (by rw [recW_length]; exact ih _)
def pieceE (g a : Nat) (b : Bs) (j : Nat) : Bs := encT g (a + j) (kindK (decide (j = 0)) (decide (j + 1 = secT b.length))) (piece b j)
section
variable {S S' : List Bs}
theorem secT_pos (m : Nat) : 1 ≤ secT m := by unfold secT; omega
theorem kindK_nat (b e : Bool) : (kindK b e).toNat = (if b = true then 1 else 0) + (if e = true then 2 else 0) := by cases b <;> cases e <;> rfl
theorem kindB_piece {b : Bs} {j : Nat} (hj : j < secT b.length) : kindB (kindK (decide (j = 0)) (decide (j + 1 = secT b.length))).toNat (piece b j).length = true := by
  rw [kindK_nat, piece_length, kindB]
  unfold secT at *
  simp only [Bool.and_eq_true, decide_eq_true_eq]
  refine ⟨?_, by omega, ?_, ?_⟩
  · split <;> split <;> omega
  · intro h
    split at h <;> split at h <;> omega
  · intro h
    split at h <;> split at h <;> omega
def Bears (S' : List Bs) (g a : Nat) (b : Bs) (k : Nat) : Prop := ∀ j, j < k → S'[a + j]? = some (pieceE g a b j)
theorem goodT_pieceE {g a : Nat} {b : Bs} {j : Nat} (hg : 0 < g) (hg2 : g < 4294967296) (ha : a + j < 65536) (hj : j < secT b.length) : goodT (pieceE g a b j) (a + j) = true := enc_good hg hg2 ha (piece_le _ _) (kindB_piece hj)
theorem kindT_pieceE (g a : Nat) (b : Bs) (j : Nat) : kindT (pieceE g a b j) = (if j = 0 then 1 else 0) + (if j + 1 = secT b.length then 2 else 0) := by
  rw [kindT, pieceE, enc_kind, kindK_nat]
  simp
theorem genT_pieceE {g a : Nat} {b : Bs} {j : Nat} (hg2 : g < 4294967296) : genT (pieceE g a b j) = g := enc_gen hg2
theorem recGo_at {g k : Nat} {f : Bool} {s : Bs} (hk : S'[k]? = some s) : recGo g k f (S'.drop k) = if goodT s k = true ∧ decide (kindT s % 2 = 1) = f ∧ genT s = g then (if 2 ≤ kindT s then some (dataT s, 1) else (recGo g (k + 1) false (S'.drop (k + 1))).map fun x => (dataT s ++ x.1, x.2 + 1)) else none := by
  obtain ⟨h, e⟩ := List.getElem?_eq_some_iff.1 hk
  rw [recGo_cons h, e]
theorem recGo_bears {g a : Nat} {b : Bs} (hg : 0 < g) (hg2 : g < 4294967296) (ha : a + secT b.length ≤ 65536) (h : Bears S' g a b (secT b.length)) : recGo g a true (S'.drop a) = some (b, secT b.length) := by
  suffices H : ∀ i j, secT b.length = j + (i + 1) → recGo g (a + j) (decide (j = 0)) (S'.drop (a + j)) = some (b.drop (112 * j), i + 1) by
    have h1 : recGo g a true (S'.drop a) = some (b.drop (112 * 0), secT b.length - 1 + 1) := H (secT b.length - 1) 0 (by have := secT_pos b.length; omega)
    rw [h1, Nat.mul_zero, List.drop_zero]
    congr 2
    have := secT_pos b.length; omega
  intro i
  induction i with
  | zero =>
    intro j hj
    have hjl : j < secT b.length := by omega
    rw [recGo_at (h j hjl), if_pos, if_pos]
    · congr 2
      rw [pieceE, enc_data (piece_le _ _), piece, List.take_of_length_le]
      rw [List.length_drop]
      unfold secT at hj
      omega
    · rw [kindT_pieceE, if_pos hj.symm]; omega
    · refine ⟨goodT_pieceE hg hg2 (by omega) hjl, ?_, genT_pieceE hg2⟩
      rw [kindT_pieceE, if_pos hj.symm]
      by_cases h0 : j = 0
      · rw [if_pos h0, decide_eq_true h0]; rfl
      · rw [if_neg h0, decide_eq_false h0]; rfl
  | succ i ih =>
    intro j hj
    have hjl : j < secT b.length := by omega
    have hne : ¬ j + 1 = secT b.length := by omega
    rw [recGo_at (h j hjl), if_pos, if_neg]
    · have := ih (j + 1) (by omega)
      rw [decide_eq_false (by omega : ¬ j + 1 = 0), ← Nat.add_assoc] at this
      rw [this, pieceE, enc_data (piece_le _ _), piece]
      simp only [Option.map_some]
      congr 2
      rw [show 112 * (j + 1) = 112 * j + 112 by omega, ← List.drop_drop, List.take_append_drop]
    · rw [kindT_pieceE, if_neg hne]; split <;> omega
    · refine ⟨goodT_pieceE hg hg2 (by omega) hjl, ?_, genT_pieceE hg2⟩
      rw [kindT_pieceE, if_neg hne]
      by_cases h0 : j = 0
      · rw [if_pos h0, decide_eq_true h0]; rfl
      · rw [if_neg h0, decide_eq_false h0]; rfl
theorem recGo_broken {g a k : Nat} {b t : Bs} (hk : k < secT b.length) (h : Bears S' g a b k) (ht : S'[a + k]? = some t) (hb : goodT t (a + k) = false) (g' : Nat) : recGo g' a true (S'.drop a) = none := by
  suffices H : ∀ i j, k = j + i → ∀ f, recGo g' (a + j) f (S'.drop (a + j)) = none from H k 0 (by omega) true
  intro i
  induction i with
  | zero =>
    intro j hj f
    obtain rfl : k = j := by omega
    rw [recGo_at ht, if_neg]
    rintro ⟨h1, _⟩
    rw [hb] at h1
    cases h1
  | succ i ih =>
    intro j hj f
    have hne : ¬ j + 1 = secT b.length := by omega
    have e := recGo_at (g := g') (f := f) (h j (by omega))
    rw [e]
    split
    · rw [if_neg (by rw [kindT_pieceE, if_neg hne]; split <;> omega)]
      have := ih (j + 1) (by omega) false
      rw [← Nat.add_assoc] at this
      rw [this]
      rfl
    · rfl
theorem goodT_kind {s : Bs} {k : Nat} (h : goodT s k = true) : kindB (kindT s) (manyT s) = true := by
  unfold goodT at h
  simp only [Bool.and_eq_true] at h
  exact h.2.1
theorem recGo_size {l : List Bs} (h128 : ∀ s ∈ l, s.length = 128) : ∀ {g k : Nat} {f : Bool} {b : Bs} {n : Nat}, recGo g k f l = some (b, n) → b.length ≤ 112 * n ∧ 112 * (n - 1) ≤ b.length ∧ (f = false ∨ 1 < n → 112 * (n - 1) < b.length) := by
  induction l with
  | nil => intro g k f b n h; cases h
  | cons s r ih =>
    intro g k f b n h
    rw [recGo] at h
    split at h
    · rename_i hc
      obtain ⟨h1, h2, _⟩ := hc
      have hk := goodT_kind h1
      simp only [kindB, Bool.and_eq_true, decide_eq_true_eq] at hk
      obtain ⟨k1, k2, k3, k4⟩ := hk
      have hd := data_length (h128 s List.mem_cons_self) k2
      split at h
      · simp only [Option.some.injEq, Prod.mk.injEq] at h
        obtain ⟨rfl, rfl⟩ := h
        rw [hd]
        refine ⟨by omega, by omega, fun hf => ?_⟩
        rcases hf with rfl | hf
        · have := k4 (by have := of_decide_eq_false h2; omega)
          omega
        · omega
      · cases hr : recGo g (k + 1) false r with
        | none => rw [hr] at h; cases h
        | some x =>
          obtain ⟨b', n'⟩ := x
          rw [hr] at h
          simp only [Option.map_some, Option.some.injEq, Prod.mk.injEq] at h
          obtain ⟨rfl, rfl⟩ := h
          obtain ⟨i1, i2, i3⟩ := ih (fun x hx => h128 x (List.mem_cons_of_mem _ hx)) hr
          have i3 := i3 (.inl rfl)
          have hp := recGo_pos hr
          have := k3 (by omega)
          rw [List.length_append, hd, this]
          refine ⟨by omega, by omega, fun _ => by omega⟩
    · cases h
theorem recGo_sec {l : List Bs} (h128 : ∀ s ∈ l, s.length = 128) {g k : Nat} {b : Bs} {n : Nat} (h : recGo g k true l = some (b, n)) : n = secT b.length := by
  obtain ⟨h1, h2, h3⟩ := recGo_size h128 h
  have hp := recGo_pos h
  unfold secT
  by_cases hn : 1 < n
  · have := h3 (.inr hn)
    omega
  · omega
theorem recGo_agree {g : Nat} : ∀ {n k : Nat} {f : Bool} {b : Bs}, recGo g k f (S.drop k) = some (b, n) → (∀ j, j < n → S'[k + j]? = S[k + j]?) → recGo g k f (S'.drop k) = some (b, n) := by
  intro n
  induction n with
  | zero => intro k f b h; exact absurd (recGo_pos h).1 (by omega)
  | succ n ih =>
    intro k f b h ha
    have hl := (recGo_pos h).2
    rw [List.length_drop] at hl
    have hk : k < S.length := by omega
    have e := List.getElem?_eq_getElem hk
    have e' := ha 0 (by omega)
    rw [Nat.add_zero, e] at e'
    rw [recGo_at e] at h
    rw [recGo_at e']
    split at h
    · rename_i hc
      rw [if_pos hc]
      split at h
      · rename_i h2
        rw [if_pos h2, h]
      · rename_i h2
        rw [if_neg h2]
        cases hr : recGo g (k + 1) false (S.drop (k + 1)) with
        | none => rw [hr] at h; cases h
        | some x =>
          obtain ⟨b', n'⟩ := x
          rw [hr] at h
          simp only [Option.map_some, Option.some.injEq, Prod.mk.injEq] at h
          obtain ⟨rfl, hn⟩ := h
          obtain rfl : n' = n := by omega
          rw [ih hr fun j hj => by rw [show k + 1 + j = k + (j + 1) by omega]; exact ha (j + 1) (by omega)]
          rfl
    · cases h
theorem leftT_inv {k last : Nat} {b : Bs} {R : List Bs} (h : leftT S k last = b :: R) : ∃ (n : Nat) (hk : k < S.length), recGo (genT S[k]) k true (S.drop k) = some (b, n) ∧ ¬ genT S[k] < last ∧ leftT S (k + n) (genT S[k]) = R := by
  rcases Nat.lt_or_ge k S.length with hk | hk
  · by_cases hl : genT S[k] < last
    · rw [leftT_old hk hl] at h; cases h
    · cases hr : recGo (genT S[k]) k true (S.drop k) with
      | none => rw [leftT_none hk hr] at h; cases h
      | some x =>
        obtain ⟨b', n⟩ := x
        rw [leftT_some hk hr hl] at h
        injection h with h1 h2
        subst h1
        exact ⟨n, hk, hr, hl, h2⟩
  · rw [leftT_end hk] at h; cases h
theorem left_keep (h128 : ∀ s ∈ S, s.length = 128) : ∀ (m : Nat) {k last : Nat} {R : List Bs}, leftT S k last = R → m ≤ R.length → (∀ i, k ≤ i → i < k + usedT (R.take m) → S'[i]? = S[i]?) →
    ∃ last', (∀ B, last ≤ B → (∀ s ∈ S, genT s ≤ B) → last' ≤ B) ∧ leftT S' k last = R.take m ++ leftT S' (k + usedT (R.take m)) last' ∧ leftT S (k + usedT (R.take m)) last' = R.drop m := by
  intro m
  induction m with
  | zero => intro k last R h _ _; exact ⟨last, fun _ h _ => h, by simp [usedT], by simpa [usedT] using h⟩
  | succ m ih =>
    intro k last R h hm ha
    match R, hm with
    | b :: R, hm =>
      obtain ⟨n, hk, h1, h2, h3⟩ := leftT_inv h
      obtain rfl : n = secT b.length := recGo_sec (fun s hs => h128 s (List.mem_of_mem_drop hs)) h1
      have hu : usedT ((b :: R).take (m + 1)) = secT b.length + usedT (R.take m) := by rw [List.take_succ_cons, usedT_cons]
      rw [hu] at ha ⊢
      have e1 := recGo_agree (S' := S') h1 fun j hj => ha (k + j) (by omega) (by omega)
      have e0 := ha k (Nat.le_refl _) (by have := secT_pos b.length; omega)
      rw [List.getElem?_eq_getElem hk] at e0
      obtain ⟨hk', e0⟩ := List.getElem?_eq_some_iff.1 e0
      obtain ⟨last', i1, i2, i3⟩ := ih h3 (by simpa using hm) fun i hi1 hi2 => ha i (by omega) (by omega)
      refine ⟨last', fun B hB hS => i1 B (hS _ (List.getElem_mem hk)) hS, ?_, ?_⟩
      · rw [leftT_some hk' (by rw [e0]; exact e1) (by rw [e0]; exact h2), e0, i2, List.take_succ_cons, Nat.add_assoc]
        rfl
      · rw [← Nat.add_assoc, i3]; rfl
def Wrote (S' : List Bs) (g a : Nat) (N : List Bs) (k : Nat) : Prop := ∀ j x, j < k → (recsW g a N)[j]? = some x → S'[a + j]? = some x.data
theorem Wrote.first {g a k : Nat} {b : Bs} {N : List Bs} (h : Wrote S' g a (b :: N) k) {i : Nat} (hi : i ≤ k) (hi2 : i ≤ secT b.length) : Bears S' g a b i := fun j hj => by
  have e : (recsW g a (b :: N))[j]? = some (pieceW g a b j) := by
    rw [recsW, List.getElem?_append_left (by rw [recW_length]; omega), recW_get (by omega)]
  exact h j _ (by omega) e
theorem Wrote.rest {g a k : Nat} {b : Bs} {N : List Bs} (h : Wrote S' g a (b :: N) k) : Wrote S' g (a + secT b.length) N (k - secT b.length) := fun j x hj hx => by
  have e : (recsW g a (b :: N))[secT b.length + j]? = some x := by
    rw [recsW, List.getElem?_append_right (by rw [recW_length]; omega), recW_length, Nat.add_sub_cancel_left]; exact hx
  have := h _ _ (by omega) e
  rwa [← Nat.add_assoc] at this
theorem left_bears {g a last : Nat} {b : Bs} (hg : 0 < g) (hg2 : g < 4294967296) (ha : a + secT b.length ≤ 65536) (hl : last ≤ g) (h : Bears S' g a b (secT b.length)) : leftT S' a last = b :: leftT S' (a + secT b.length) g := by
  have e := h 0 (secT_pos _)
  rw [Nat.add_zero] at e
  obtain ⟨hk, e0⟩ := List.getElem?_eq_some_iff.1 e
  have eg : genT S'[a] = g := by rw [e0]; exact genT_pieceE hg2
  rw [leftT_some hk (by rw [eg]; exact recGo_bears hg hg2 ha h) (by rw [eg]; omega), eg]
theorem left_wrote {g : Nat} (hg : 0 < g) (hg2 : g < 4294967296) : ∀ {N : List Bs} {a last : Nat}, a + usedT N ≤ 65536 → last ≤ g → Wrote S' g a N (usedT N) → N ≠ [] → leftT S' a last = N ++ leftT S' (a + usedT N) g := by
  intro N
  induction N with
  | nil => intro a last _ _ _ h; exact absurd rfl h
  | cons b N ih =>
    intro a last ha hl hw _
    have hu := usedT_cons b N
    rw [left_bears hg hg2 (by omega) hl (hw.first (by omega) (Nat.le_refl _))]
    rcases N with _ | ⟨b', N'⟩
    · have : usedT [b] = secT b.length := by rw [hu]; rfl
      rw [this]; rfl
    · have := ih (a := a + secT b.length) (last := g) (by omega) (Nat.le_refl _) (by have := hw.rest; rwa [hu, Nat.add_sub_cancel_left] at this) (by simp)
      rw [this, hu, ← Nat.add_assoc]
      rfl
theorem left_torn {g : Nat} {t : Bs} (hg : 0 < g) (hg2 : g < 4294967296) : ∀ {N : List Bs} {a last k : Nat}, a + usedT N ≤ 65536 → last ≤ g → Wrote S' g a N k → k < usedT N → S'[a + k]? = some t → goodT t (a + k) = false → ∃ m, m < N.length ∧ usedT (N.take m) ≤ k ∧ k < usedT (N.take (m + 1)) ∧ leftT S' a last = N.take m := by
  intro N
  induction N with
  | nil => intro a last k _ _ _ h; simp [usedT] at h
  | cons b N ih =>
    intro a last k ha hl hw hk ht hb
    have hu := usedT_cons b N
    rcases Nat.lt_or_ge k (secT b.length) with hkb | hkb
    · refine ⟨0, by simp, by simp [usedT], by rw [List.take_succ_cons, usedT_cons]; omega, ?_⟩
      rcases Nat.eq_zero_or_pos k with rfl | h0
      · rw [Nat.add_zero] at ht
        obtain ⟨hka, e0⟩ := List.getElem?_eq_some_iff.1 ht
        rw [leftT_none hka (recGo_broken (g := g) (b := b) (t := t) (k := 0) hkb (fun j hj => by omega) ht hb _)]
        rfl
      · have hB := hw.first (Nat.le_refl k) (Nat.le_of_lt hkb)
        have e := hB 0 h0
        rw [Nat.add_zero] at e
        obtain ⟨hka, e0⟩ := List.getElem?_eq_some_iff.1 e
        rw [leftT_none hka (recGo_broken hkb hB ht hb _)]
        rfl
    · obtain ⟨m, hm, m1, m2, e⟩ := ih (a := a + secT b.length) (last := g) (k := k - secT b.length) (by omega) (Nat.le_refl _) hw.rest (by omega) (by rw [show a + secT b.length + (k - secT b.length) = a + k by omega]; exact ht) (by rw [show a + secT b.length + (k - secT b.length) = a + k by omega]; exact hb)
      refine ⟨m + 1, by simpa using hm, by rw [List.take_succ_cons, usedT_cons]; omega, by rw [List.take_succ_cons, usedT_cons]; omega, ?_⟩
      rw [left_bears hg hg2 (by omega) hl (hw.first hkb (Nat.le_refl _)), e, List.take_succ_cons]
theorem records_synced {R N : List Bs} {g : Nat} (h128 : ∀ s ∈ S, s.length = 128) (hR : recordsT S = R) (hg : 0 < g) (hg2 : g < 4294967296) (hS : ∀ s ∈ S, genT s < g) (hfit : usedT R + usedT N ≤ 65536) (hl : S'.length = S.length) (h1 : ∀ i, i < usedT R → S'[i]? = S[i]?) (h2 : Wrote S' g (usedT R) N (usedT N)) (h3 : ∀ i, usedT R + usedT N ≤ i → S'[i]? = S[i]?) (hN : N ≠ []) : recordsT S' = R ++ N := by
  obtain ⟨last', i1, i2, _⟩ := left_keep (S' := S') h128 R.length (k := 0) (last := 0) hR (Nat.le_refl _) fun i _ hi => h1 i (by rw [List.take_length] at hi; omega)
  rw [List.take_length, Nat.zero_add] at i2
  rw [recordsT_left, i2, left_wrote hg hg2 hfit (i1 g (Nat.zero_le _) fun s hs => Nat.le_of_lt (hS s hs)) h2 hN]
  have e : leftT S' (usedT R + usedT N) g = [] := by
    rcases Nat.lt_or_ge (usedT R + usedT N) S'.length with hk | hk
    · refine leftT_old hk ?_
      have e := h3 _ (Nat.le_refl _)
      rw [List.getElem?_eq_getElem hk, List.getElem?_eq_getElem (by omega)] at e
      rw [Option.some.inj e]
      exact hS _ (List.getElem_mem _)
    · exact leftT_end hk
  rw [e, List.append_nil]
theorem records_torn {R N : List Bs} {g k : Nat} {t : Bs} (h128 : ∀ s ∈ S, s.length = 128) (hR : recordsT S = R) (hg : 0 < g) (hg2 : g < 4294967296) (hS : ∀ s ∈ S, genT s < g) (hfit : usedT R + usedT N ≤ 65536) (h1 : ∀ i, i < usedT R → S'[i]? = S[i]?) (h2 : Wrote S' g (usedT R) N k) (hk : k < usedT N) (ht : S'[usedT R + k]? = some t) (hb : goodT t (usedT R + k) = false) : ∃ m, m < N.length ∧ usedT (N.take m) ≤ k ∧ k < usedT (N.take (m + 1)) ∧ recordsT S' = R ++ N.take m := by
  obtain ⟨last', i1, i2, _⟩ := left_keep (S' := S') h128 R.length (k := 0) (last := 0) hR (Nat.le_refl _) fun i _ hi => h1 i (by rw [List.take_length] at hi; omega)
  rw [List.take_length, Nat.zero_add] at i2
  obtain ⟨m, hm, m1, m2, e⟩ := left_torn hg hg2 hfit (i1 g (Nat.zero_le _) fun s hs => Nat.le_of_lt (hS s hs)) h2 hk ht hb
  exact ⟨m, hm, m1, m2, by rw [recordsT_left, i2, e]⟩
end
end Go.Proofs.Ythlidhfahaalgaa
namespace Go.Proofs.Ythlidhfahaalgaa
open Go.RowKit
theorem genF_le {l : List Bs} {B : Nat} (h : ∀ s ∈ l, genT s ≤ B ∧ tailT s ≤ B) : ∀ n, n ≤ B → l.foldl genS n ≤ B := by
  induction l with
  | nil => intro n hn; exact hn
  | cons s l ih =>
    intro n hn
    obtain ⟨h1, h2⟩ := h s List.mem_cons_self
    exact ih (fun s hs => h s (List.mem_cons_of_mem _ hs)) _ (by unfold genS; omega)
theorem genM_le {l : List Bs} {B : Nat} (h : ∀ s ∈ l, genT s ≤ B ∧ tailT s ≤ B) : genM l ≤ B := genF_le h 0 (Nat.zero_le _)
theorem genF_ge (l : List Bs) : ∀ n, n ≤ l.foldl genS n := by
  induction l with
  | nil => intro n; exact Nat.le_refl _
  | cons s l ih => intro n; exact Nat.le_trans (by unfold genS; omega) (ih (genS n s))
theorem genF_mem {l : List Bs} {s : Bs} (h : s ∈ l) : ∀ n, genT s ≤ l.foldl genS n ∧ tailT s ≤ l.foldl genS n := by
  induction l with
  | nil => cases h
  | cons x l ih =>
    intro n
    rcases List.mem_cons.1 h with rfl | h
    · have := genF_ge l (genS n s)
      rw [List.foldl_cons]
      unfold genS at this ⊢
      omega
    · exact ih h _
theorem genM_mem {l : List Bs} {s : Bs} (h : s ∈ l) : genT s ≤ genM l ∧ tailT s ≤ genM l := genF_mem h 0
structure GoodS (S : List Bs) (n : Nat) (R : List Bs) (g : Nat) : Prop where
  pos : 1 ≤ n
  le : n ≤ 4096
  len : S.length = n
  rows : ∀ s ∈ S, s.length = 128
  recs : recordsT S = R
  gen : genM S ≤ g
theorem GoodS.mono {S : List Bs} {n : Nat} {R : List Bs} {g g' : Nat} (h : GoodS S n R g) (hg : g ≤ g') : GoodS S n R g' := ⟨h.pos, h.le, h.len, h.rows, h.recs, Nat.le_trans h.gen hg⟩
theorem left_used {S : List Bs} (h128 : ∀ s ∈ S, s.length = 128) : ∀ {R : List Bs} {k last : Nat}, leftT S k last = R → k ≤ S.length → k + usedT R ≤ S.length := by
  intro R
  induction R with
  | nil => intro k last _ h; simpa [usedT] using h
  | cons b R ih =>
    intro k last h hk
    obtain ⟨n, hk', h1, _, h3⟩ := leftT_inv h
    obtain rfl : n = secT b.length := recGo_sec (fun s hs => h128 s (List.mem_of_mem_drop hs)) h1
    have hp := (recGo_pos h1).2
    rw [List.length_drop] at hp
    have := ih h3 (by omega)
    rw [usedT_cons]
    omega
theorem GoodS.used {S : List Bs} {n : Nat} {R : List Bs} {g : Nat} (h : GoodS S n R g) : usedT R ≤ n := by
  have := left_used h.rows (k := 0) (last := 0) h.recs (Nat.zero_le _)
  rw [h.len] at this
  omega
theorem disk_ok {S : List Bs} {n : Nat} {R : List Bs} {g : Nat} {l : Int} {s : Bool} (h : GoodS S n R g) (hl : -1 ≤ l ∧ l ≤ 65536) : (⟨S, [], l, s⟩ : Dk).okB = true :=
  okB_of (by rw [h.len]; exact h.pos) (by rw [h.len]; exact h.le) (Nat.zero_le _) hl.1 hl.2 (fun x hx => by cases hx) h.rows
theorem opened_ok {S : List Bs} {n : Nat} {R : List Bs} {g : Nat} (h : GoodS S n R g) : (⟨R, n, R.length⟩ : Jn).okB = true := by
  have hu := h.used
  have hp := h.pos
  have hl := h.le
  exact (Jn.okB_iff _).2 ⟨by show (1 : Int) ≤ (n : Int); omega, by show (n : Int) ≤ 4096; omega, by show (0 : Int) ≤ (R.length : Int); omega, Int.le_refl _, by show (usedT R : Int) ≤ (n : Int); omega⟩
theorem open_good {S : List Bs} {n : Nat} {R : List Bs} {g : Nat} {l : Int} (h : GoodS S n R g) (hl : -1 ≤ l ∧ l ≤ 65536) : openT ⟨S, [], l, false⟩ = (⟨R, n, R.length⟩, 0) := by
  have hc : (⟨S, [], l, false⟩ : Dk).checkT = 0 := check_good (disk_ok h hl)
  rw [openT, if_neg (by rw [hc]; simp), if_neg (by simp), if_neg (by simp)]
  show ((⟨recordsT S, (S.length : Int), ((recordsT S).length : Int)⟩ : Jn), (0 : Int)) = _
  rw [h.recs, h.len]
theorem wrote_perf {S : List Bs} {g a k : Nat} {N : List Bs} (h : a + usedT N ≤ S.length) : Wrote (perf S ((recsW g a N).take k)) g a N k := fun j x hj hx => by
  have hl := (List.getElem?_eq_some_iff.1 hx).1
  rw [recsW_length] at hl
  refine perf_in (ws := (recsW g a N).take k) (fun i y hy => recsW_consec g N a i y ?_) ?_ ?_
  · rw [List.getElem?_take] at hy
    split at hy
    · exact hy
    · cases hy
  · rw [List.length_take, recsW_length]; omega
  · rw [List.getElem?_take, if_pos hj]; exact hx
theorem take_consec (g a k : Nat) (N : List Bs) : Consec a ((recsW g a N).take k) := fun i y hy => recsW_consec g N a i y (by
  rw [List.getElem?_take] at hy
  split at hy
  · exact hy
  · cases hy)
theorem enc_tailT {g k : Nat} {kind : UInt8} {b : Bs} (hb : b.length ≤ 112) (hg : g < 4294967296) : tailT (encT g k kind b) = g := enc_tail hb hg
theorem recW_gen {g a : Nat} {b : Bs} {x : Wr} (hg : g < 4294967296) (h : x ∈ recW g a b) : genT x.data = g ∧ tailT x.data = g := by
  obtain ⟨j, hj, rfl⟩ := List.mem_map.1 h
  exact ⟨enc_gen hg, enc_tailT (piece_le _ _) hg⟩
theorem recsW_gen {g : Nat} {N : List Bs} (hg : g < 4294967296) : ∀ {a : Nat} {x : Wr}, x ∈ recsW g a N → genT x.data = g ∧ tailT x.data = g := by
  induction N with
  | nil => intro a x h; cases h
  | cons b N ih =>
    intro a x h
    rw [recsW] at h
    rcases List.mem_append.1 h with h | h
    · exact recW_gen hg h
    · exact ih h
theorem perf_all {S : List Bs} {P : Bs → Prop} {ws : List Wr} (hS : ∀ s ∈ S, P s) (hw : ∀ x ∈ ws, P x.data) : ∀ s ∈ perf S ws, P s := by
  induction ws generalizing S with
  | nil => exact hS
  | cons x ws ih =>
    rw [perf_cons]
    refine ih (fun s hs => ?_) fun y hy => hw y (List.mem_cons_of_mem _ hy)
    rcases List.mem_or_eq_of_mem_set hs with hs | rfl
    · exact hS s hs
    · exact hw x List.mem_cons_self
section
variable {S R N : List Bs} {n g : Nat} {l : Int}
theorem GoodS.synced (h : GoodS S n R g) (hg : g + 1 ≤ 4294967295) (hfit : usedT R + usedT N ≤ n) (hN : N ≠ []) : GoodS (perf S (recsW (genM S + 1) (usedT R) N)) n (R ++ N) (g + 1) := by
  have hge := h.gen
  have hle := h.le
  have hgl : genM S + 1 < 4294967296 := by omega
  refine ⟨h.pos, h.le, by rw [perf_length, h.len], perf_len h.rows fun x hx => (recsW_mem hx).2.2, ?_, ?_⟩
  · have hlen := recsW_length (genM S + 1) (usedT R) N
    refine records_synced (g := genM S + 1) h.rows h.recs (Nat.succ_pos _) hgl (fun s hs => by have := (genM_mem hs).1; omega) (by omega) (perf_length _ _) (fun i hi => perf_out (recsW_consec _ _ _) (.inl hi)) ?_ (fun i hi => perf_out (recsW_consec _ _ _) (.inr (by rw [hlen]; exact hi))) hN
    have := wrote_perf (S := S) (g := genM S + 1) (a := usedT R) (k := usedT N) (N := N) (by rw [h.len]; exact hfit)
    rwa [List.take_of_length_le (by rw [hlen]; exact Nat.le_refl _)] at this
  · refine genM_le (perf_all (P := fun s => genT s ≤ g + 1 ∧ tailT s ≤ g + 1) (fun s hs => by have := genM_mem hs; omega) fun x hx => ?_)
    obtain ⟨e1, e2⟩ := recsW_gen hgl hx
    omega
theorem torn_bad {s t : Bs} {k : Nat} (hs : s.length = 128) (hne : genT s ≠ tailT t) : goodT (s.take 64 ++ t.drop 64) k = false := by
  rcases hb : goodT (s.take 64 ++ t.drop 64) k with _ | _
  · rfl
  · exfalso
    unfold goodT at hb
    simp only [Bool.and_eq_true, decide_eq_true_eq] at hb
    have e := hb.2.2.1
    have e1 : genT (s.take 64 ++ t.drop 64) = genT s := by
      rw [genT, genT, List.take_append_of_le_length (by simp [hs]), List.take_take]
      rfl
    have e2 : (s.take 64 ++ t.drop 64).drop 124 = t.drop 124 := by
      rw [List.drop_append, List.drop_of_length_le (by simp [hs]), List.length_take, hs, List.drop_drop]
      rfl
    rw [e1, e2] at e
    exact hne e
theorem torn_gen {s t : Bs} (hs : s.length = 128) : genT (s.take 64 ++ t.drop 64) = genT s ∧ tailT (s.take 64 ++ t.drop 64) = tailT t := by
  constructor
  · rw [genT, genT, List.take_append_of_le_length (by simp [hs]), List.take_take]
    rfl
  · rw [tailT, tailT, List.drop_append, List.drop_of_length_le (by simp [hs]), List.length_take, hs, List.drop_drop]
    rfl
theorem GoodS.torn {k : Nat} (h : GoodS S n R g) (hg : g + 1 ≤ 4294967295) (hfit : usedT R + usedT N ≤ n) (hk : k < usedT N) (d : Dk) (hd : d.sectors = S) (hp : d.pending = recsW (genM S + 1) (usedT R) N) (hl : d.left = (k : Int)) : ∃ m, m < N.length ∧ GoodS (tornS d) n (R ++ N.take m) (g + 1) := by
  have hge := h.gen
  have hle := h.le
  have hgl : genM S + 1 < 4294967296 := by omega
  have hlen := recsW_length (genM S + 1) (usedT R) N
  obtain ⟨x, hx⟩ : ∃ x, (recsW (genM S + 1) (usedT R) N)[k]? = some x := ⟨_, List.getElem?_eq_getElem (by rw [hlen]; exact hk)⟩
  have hxm := List.mem_of_getElem? hx
  have hat := recsW_consec _ _ _ _ _ hx
  obtain ⟨x1, x2⟩ := recsW_gen hgl hxm
  have x3 := (recsW_mem hxm).2.2
  have hSl := h.len
  have hkS : usedT R + k < S.length := by omega
  have e : tornS d = (perf S ((recsW (genM S + 1) (usedT R) N).take k)).set (usedT R + k) (x.data.take 64 ++ (S[usedT R + k]).drop 64) := by
    rw [tornS, hd, hp, hl]
    have e0 : ((k : Int)).toNat = k := by omega
    have e1 : (recsW (genM S + 1) (usedT R) N).getD k Wr.zero = x := by rw [List.getD_eq_getElem?_getD, hx]; rfl
    have e2 : x.at'.toNat = usedT R + k := by omega
    simp only [e0, e1, e2]
    rw [List.getD_eq_getElem?_getD, perf_out (take_consec _ _ _ _) (.inr (by rw [List.length_take]; omega)), List.getElem?_eq_getElem hkS]
    rfl
  have hpl : (perf S ((recsW (genM S + 1) (usedT R) N).take k)).length = n := by rw [perf_length, hSl]
  have hsk := genM_mem (List.getElem_mem hkS)
  have hbad : goodT (x.data.take 64 ++ (S[usedT R + k]).drop 64) (usedT R + k) = false := torn_bad x3 (by omega)
  have hrec : ∃ m, m < N.length ∧ usedT (N.take m) ≤ k ∧ k < usedT (N.take (m + 1)) ∧ recordsT (tornS d) = R ++ N.take m := by
    rw [e]
    refine records_torn (g := genM S + 1) (k := k) (t := x.data.take 64 ++ (S[usedT R + k]).drop 64) h.rows h.recs (Nat.succ_pos _) hgl (fun s hs => by have := (genM_mem hs).1; omega) (by omega) (fun i hi => ?_) (fun j y hj hy => ?_) hk ?_ hbad
    · rw [List.getElem?_set_ne (by omega), perf_out (take_consec _ _ _ _) (.inl hi)]
    · rw [List.getElem?_set_ne (by omega)]
      exact wrote_perf (by omega) j y hj hy
    · rw [List.getElem?_set_self (by rw [hpl]; omega)]
  obtain ⟨m, hm, _, _, er⟩ := hrec
  refine ⟨m, hm, h.pos, h.le, by rw [e, List.length_set, hpl], ?_, er, ?_⟩
  · rw [e]
    intro s hs
    rcases List.mem_or_eq_of_mem_set hs with hs | rfl
    · exact perf_len h.rows (fun y hy => (recsW_mem (List.mem_of_mem_take hy)).2.2) s hs
    · have := h.rows _ (List.getElem_mem hkS)
      simp [x3, this]
  · rw [e]
    refine genM_le fun s hs => ?_
    rcases List.mem_or_eq_of_mem_set hs with hs | rfl
    · refine perf_all (P := fun s => genT s ≤ g + 1 ∧ tailT s ≤ g + 1) (fun s hs => by have := genM_mem hs; omega) (fun x hx => ?_) s hs
      obtain ⟨e1, e2⟩ := recsW_gen hgl (List.mem_of_mem_take hx)
      omega
    · obtain ⟨t1, t2⟩ := torn_gen (s := x.data) (t := S[usedT R + k]) x3
      rw [t1, t2]
      omega
theorem sync_good (h : GoodS S n R g) (hg : g + 1 ≤ 4294967295) (hl : -1 ≤ l ∧ l ≤ 65536) (hJ : (⟨R ++ N, n, R.length⟩ : Jn).okB = true) :
    (∃ S' l', GoodS S' n (R ++ N) (g + 1) ∧ -1 ≤ l' ∧ l' ≤ 65536 ∧ (l = -1 → l' = -1) ∧ (N = [] → S' = S ∧ l' = l) ∧ (N ≠ [] → S' = perf S (recsW (genM S + 1) (usedT R) N)) ∧ syncJ ⟨R ++ N, n, R.length⟩ ⟨S, [], l, false⟩ = (⟨R ++ N, n, ((R ++ N).length : Nat)⟩, ⟨S', [], l', false⟩, 0)) ∨
    (0 ≤ l ∧ ∃ S' m, m < N.length ∧ GoodS S' n (R ++ N.take m) (g + 1) ∧ syncJ ⟨R ++ N, n, R.length⟩ ⟨S, [], l, false⟩ = (Jn.zero, ⟨S', [], 0, true⟩, 40)) := by
  have hge := h.gen
  have hle := h.le
  have hok := disk_ok (s := false) h hl
  have hc : (⟨S, [], l, false⟩ : Dk).checkT = 0 := check_good hok
  have hfit : usedT R + usedT N ≤ n := by
    obtain ⟨_, _, _, _, g5⟩ := (Jn.okB_iff _).1 hJ
    have g5 : (usedT (R ++ N) : Int) ≤ (n : Int) := g5
    rw [usedT_append] at g5
    omega
  have hrest : syncJ ⟨R ++ N, n, R.length⟩ ⟨S, [], l, false⟩ = if N = [] then (⟨R ++ N, n, R.length⟩, ⟨S, [], l, false⟩, 0) else (fun y : Dk × Int => if y.2 = 0 then (⟨R ++ N, n, ((R ++ N).length : Int)⟩, y.1, 0) else (Jn.zero, y.1, y.2)) (syncT ⟨S, recsW (genM S + 1) (usedT R) N, l, false⟩) := by
    have t1 : ((R.length : Int)).toNat = R.length := by omega
    rw [syncJ, if_pos hJ, if_neg (by rw [hc]; simp), if_neg (by simp), if_neg (by simp [h.len]), if_neg (by
      show ¬ (recordsT S ≠ (R ++ N).take ((R.length : Int)).toNat ∨ 4294967295 < genM S + 1)
      rintro (e | e)
      · exact e (by rw [h.recs, t1, List.take_left' rfl])
      · omega)]
    show (if ((R.length : Nat) : Int) = ((R ++ N).length : Int) then _ else _) = _
    have t2 : (((R.length : Nat) : Int) = ((R ++ N).length : Int)) ↔ N = [] := by
      rw [List.length_append, ← List.length_eq_zero_iff]
      omega
    show _ = if N = [] then _ else _
    by_cases hN : N = []
    · rw [if_pos (t2.2 hN), if_pos hN]
    · rw [if_neg (fun e => hN (t2.1 e)), if_neg hN]
      have t3 : (R ++ N).take ((R.length : Int)).toNat = R := by rw [t1, List.take_left']; rfl
      have t4 : (R ++ N).drop ((R.length : Int)).toNat = N := by rw [t1, List.drop_left']; rfl
      simp only [Dk.adds, List.nil_append, t3, t4]
  rw [hrest]
  by_cases hN : N = []
  · refine .inl ⟨S, l, ?_, hl.1, hl.2, fun h => h, fun _ => ⟨rfl, rfl⟩, fun h => absurd hN h, ?_⟩
    · rw [hN, List.append_nil]; exact h.mono (Nat.le_succ _)
    · rw [if_pos hN, hN, List.append_nil]
  · rw [if_neg hN]
    have hlen := recsW_length (genM S + 1) (usedT R) N
    have hsl := h.len
    have hok2 : (⟨S, recsW (genM S + 1) (usedT R) N, l, false⟩ : Dk).okB = true := by
      refine okB_of (by show 1 ≤ S.length; have := h.pos; omega) (by show S.length ≤ 4096; omega) (by show (recsW (genM S + 1) (usedT R) N).length ≤ 4096; omega) hl.1 hl.2 (fun x hx => ?_) h.rows
      obtain ⟨q1, q2, q3⟩ := recsW_mem hx
      exact ⟨by omega, by show x.at' < (S.length : Int); omega, q3⟩
    rcases ht : tearB (⟨S, recsW (genM S + 1) (usedT R) N, l, false⟩ : Dk) with _ | _
    · rw [sync_go (runs_of hok2 rfl) ht]
      refine .inl ⟨perf S (recsW (genM S + 1) (usedT R) N), if 0 ≤ l then l - ((recsW (genM S + 1) (usedT R) N).length : Int) else l, h.synced hg hfit hN, ?_, ?_, fun e => by rw [e]; rfl, fun e => absurd e hN, fun _ => rfl, rfl⟩
      · have hcond : ¬ (0 ≤ l ∧ l < ((recsW (genM S + 1) (usedT R) N).length : Int)) := by
          simpa [tearB] using ht
        split <;> omega
      · split <;> omega
    · rw [sync_tear (runs_of hok2 rfl) ht]
      have hcond : 0 ≤ l ∧ l < ((recsW (genM S + 1) (usedT R) N).length : Int) := by simpa [tearB] using ht
      obtain ⟨m, hm, hG⟩ := h.torn (N := N) (k := l.toNat) hg hfit (by omega) ⟨S, recsW (genM S + 1) (usedT R) N, l, false⟩ rfl rfl (by show l = _; omega)
      exact .inr ⟨hcond.1, _, m, hm, hG, rfl⟩
end
theorem new_good {n : Nat} (h1 : 1 ≤ n) (h2 : n ≤ 4096) : GoodS (List.replicate n zeros) n [] 0 := by
  have hz : ∀ s ∈ List.replicate n zeros, s = zeros := fun s hs => (List.mem_replicate.1 hs).2
  refine ⟨h1, h2, List.length_replicate, fun s hs => by rw [hz s hs]; simp [zeros], ?_, genM_le fun s hs => by rw [hz s hs]; decide⟩
  have hk : 0 < (List.replicate n zeros).length := by rw [List.length_replicate]; exact h1
  rw [recordsT_left, leftT_none hk]
  have e : (List.replicate n zeros)[0]? = some zeros := by rw [List.getElem?_replicate, if_pos (Nat.lt_of_lt_of_le Nat.zero_lt_one h1)]
  rw [recGo_at e, if_neg]
  rintro ⟨h, _⟩
  revert h
  decide
theorem set_self {l : Bs} {i : Nat} {c : UInt8} (hi : i < l.length) (h : l.set i c = l) : c = l[i] := by
  have := congrArg (·[i]?) h
  simp only [List.getElem?_set_self hi, List.getElem?_eq_getElem hi] at this
  exact Option.some.inj this
theorem damage_bad {s : Bs} {k i : Nat} {c : UInt8} (hs : s.length = 128) (hi : i < 128) (hc : c ≠ s[i]) (h : goodT s k = true) : goodT (s.set i c) k = false := by
  rcases hb : goodT (s.set i c) k with _ | _
  · rfl
  · exfalso
    unfold goodT at h hb
    simp only [Bool.and_eq_true, decide_eq_true_eq] at h hb
    obtain ⟨_, _, a1, a2, _⟩ := h
    obtain ⟨_, _, b1, b2, _⟩ := hb
    have t4 : (s.set i c).take 4 = (s.take 4).set i c := List.take_set
    have key : ∀ (m : Nat) (l : Bs), l = s.drop m → m ≤ i → i - m < l.length → l.set (i - m) c = l → False := by
      intro m l hl hm hlt he
      subst hl
      have := set_self hlt he
      rw [List.getElem_drop] at this
      exact hc (by rw [this]; congr 1; omega)
    rcases Nat.lt_or_ge i 4 with h4 | h4
    · have e1 : (s.set i c).drop 124 = s.drop 124 := by rw [List.drop_set, if_pos (by omega)]
      rw [e1, ← a1, genT, genT, t4] at b1
      have := numT_inj (by simp) b1
      have := set_self (by simp; omega) this
      rw [List.getElem_take] at this
      exact hc this
    · have g0 : genT (s.set i c) = genT s := by rw [genT, genT, t4, List.set_eq_of_length_le (by simp; omega)]
      rcases Nat.lt_or_ge i 124 with h124 | h124
      · rcases Nat.lt_or_ge i 8 with h8 | h8
        · have e1 : (s.set i c).drop 8 = s.drop 8 := by rw [List.drop_set, if_pos h8]
          have e2 : ((s.set i c).drop 4).take 4 = ((s.drop 4).take 4).set (i - 4) c := by rw [List.drop_set, if_neg (by omega), List.take_set]
          rw [e1, ← a2, e2] at b2
          have := numT_inj (by simp) b2
          have := set_self (by simp; omega) this
          rw [List.getElem_take, List.getElem_drop] at this
          exact hc (by rw [this]; congr 1; omega)
        · have e1 : ((s.set i c).drop 4).take 4 = (s.drop 4).take 4 := by
            rw [List.drop_set, if_neg (by omega), List.take_set, List.set_eq_of_length_le (by simp; omega)]
          have e2 : ((s.set i c).drop 8).take 116 = ((s.drop 8).take 116).set (i - 8) c := by rw [List.drop_set, if_neg (by omega), List.take_set]
          rw [e1, e2, a2] at b2
          have hlt : i - 8 < ((s.drop 8).take 116).length := by simp; omega
          generalize hl : (s.drop 8).take 116 = l at b2 hlt
          have hx : l[i - 8] ≠ c := by
            subst hl
            rw [List.getElem_take, List.getElem_drop]
            intro e
            exact hc (by rw [← e]; congr 1; omega)
          have p1 : l = l.take (i - 8) ++ l[i - 8] :: l.drop (i - 8 + 1) := by rw [← List.drop_eq_getElem_cons hlt, List.take_append_drop]
          have p2 : l.set (i - 8) c = l.take (i - 8) ++ c :: l.drop (i - 8 + 1) := List.set_eq_take_append_cons_drop ▸ (by rw [if_pos hlt])
          rw [p2] at b2
          conv at b2 => lhs; rw [p1]
          exact sumT_ne _ _ hx b2
      · have e1 : (s.set i c).drop 124 = (s.drop 124).set (i - 124) c := by rw [List.drop_set, if_neg (by omega)]
        rw [g0, a1, e1] at b1
        have := numT_inj (by simp) b1
        exact key 124 (s.drop 124) rfl h124 (by simp; omega) this.symm
end Go.Proofs.Ythlidhfahaalgaa
