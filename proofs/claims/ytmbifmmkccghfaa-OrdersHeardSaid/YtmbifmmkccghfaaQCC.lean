/- Contract of formed on lists, and on all values. No condition. -/
import Derived.Test.YtmbifmmkccghfaaQCA
import Derived.Lib.MinMax
import Derived.BigQuiet
import Derived.Deep.QuietTactic
import Derived.Laws.EntriesVeiled
import Derived.RegionTactic
import Derived.BigRegion
import Derived.Deep.RegionHeld3
import Derived.Deep.DrawnRows
set_option linter.unusedVariables false
set_option linter.unusedSimpArgs false
namespace Go.Proofs.Ytmbifmmkccghfaa
open Go.RowKit

def FormedAll (d : Nat) : Prop := ∀ (x : Val) (L : Value) (w : World), ValsAt w w.heap.size d L x.elems →
    Calls Try.prog 94 #[x.v L] w fun e w' => e = .returned (.tuple #[.int .i64 (formT x).1, .bool (formT x).2]) ∧ Below w.heap.size w w'
theorem form_ok {x : Val} (h : x.okB = true) : formT x = ((x.depth : Int), true) := if_pos h
theorem form_no {x : Val} (h : x.okB = false) : formT x = (0, false) := if_neg (by rw [h]; decide)
theorem form_leaf {x : Val} (h : x.depth = 0) : formT x = (0, x.okB) := by
  rcases hb : x.okB with _ | _
  · exact form_no hb
  · rw [form_ok hb, h]; rfl
set_option maxRecDepth 100000 in
set_option maxHeartbeats 4000000 in
theorem cFormed_3 (d : Nat) (hd : d ≤ 1000) (ih : ∀ d', d' < d → FormedAll d') (l : List Val) (A : Option Addr) (c : Nat) (w : World) (hV : ValsAt w w.heap.size d (.slice A l.length c) l) (rd : Int) (rb : Bool) (hr : Hid (formT (.mk 3 0 [] l) = (rd, rb))) :
    Calls Try.prog 94 #[.agg #[.int .i64 3, .int .i64 0, .string (strB []), .slice A l.length c]] w fun e w' => e = .returned (.tuple #[.int .i64 rd, .bool rb]) ∧ Below w.heap.size w w' := by
  obtain ⟨_, _, _, hm⟩ := hV.form
  unfold maxLen at hm
  have hs : (strB []).toList.isEmpty = true := by rw [strB_toList]; rfl
  obtain ⟨n, hn⟩ : ∃ n, l.length = n := ⟨_, rfl⟩
  rw [hn] at hm hV ⊢
  have HN := Lib.hid hn
  have HV := Lib.hid hV
  have IH := Lib.hid ih
  obtain ⟨z, hz⟩ : ∃ z, strB [] = z := ⟨_, rfl⟩
  rw [hz] at hs ⊢
  clear hn hV ih hz
  go_enter Try.func94, Try.ntmps94
  go_wp2
  go_loopw [2, 57] (fun dep i wr => ∃ k : Nat, k ≤ n ∧ i = .int .i64 k ∧ dep = .int .i64 (depthL (l.take k)) ∧ Hid (okL (l.take k) = true) ∧ Below w.heap.size w wr) (fun _ i _ => n - (intOf i).toNat)
  case atStart => exact ⟨0, Nat.zero_le _, rfl, by simp [depthL], Lib.hid rfl, ((Below.refl _ _).alloc (Nat.le_refl _) _).alloc (by simp) _⟩
  case round =>
    obtain ⟨k, hk, rfl, rfl, hok, hB⟩ := hrel
    by_cases hlt : k < n
    · have hlt' : k < l.length := by rw [HN.out]; exact hlt
      obtain ⟨d', b, off, V, rfl, rfl, hb, c0, c1, c2, c3, hE⟩ := HV.out.elem hlt'
      have htk := List.take_succ_eq_append_getElem hlt'
      have hnest := HV.out.depths k
      have hnx := hE.nest
      generalize l[k] = x at c0 c1 c2 c3 hE htk hnx
      obtain ⟨xk, xn, xs, xl⟩ := x
      obtain ⟨A', c', rfl, _⟩ := hE.form
      dsimp only [Val.kind, Val.num, Val.str, Val.elems] at c0 c1 c2 c3 hE
      have c0 := (hB.cell (p := ⟨b, off + k * 4, none⟩) hb).trans c0
      have c1 := (hB.cell (p := ⟨b, off + k * 4 + 1, none⟩) hb).trans c1
      have c2 := (hB.cell (p := ⟨b, off + k * 4 + 2, none⟩) hb).trans c2
      have c3 := (hB.cell (p := ⟨b, off + k * 4 + 3, none⟩) hb).trans c3
      have HE := Lib.hid ((hE.below hB).more hB.size)
      have HT := Lib.hid htk
      clear hE htk
      rcases hob : (Val.mk xk xn xs xl).okB with _ | _
      · have hno := form_no hob
        have hf : formT (.mk 3 0 [] l) = (0, false) := form_no (by
          have : okL (l.take (k + 1)) = false := by rw [HT.out, okL_snoc, hob, Bool.and_false]
          rw [Val.okB, if_neg (by decide), if_neg (by decide), if_pos rfl, okL_take this]
          simp)
        have HC := Lib.hid hno
        have HF := Lib.hid (hr.out.symm.trans hf)
        clear hob hno hf
        go_wp2_with fail
        refine (IH.out d' (by omega) (.mk xk xn xs xl) _ _ ((HE.out.below ((Below.refl _ _).alloc (Nat.le_refl _) _)).more (by simp))).mono ?_
        rw [HC.out]
        rintro e w1 ⟨rfl, hb1⟩
        have hB' := hB.trans ((((Below.refl wr.heap.size wr).alloc (Nat.le_refl _) _).trans (hb1.mono (by simp))).mono hB.size)
        clear hb1 hB
        go_wp2
        obtain ⟨h1, h2⟩ := Prod.mk.inj HF.out
        go_ret2
        exact ⟨by rw [h1, h2]; rfl, hB'⟩
      · have hyes := form_ok hob
        have hoe := hok.out
        obtain ⟨xd, hxd⟩ : ∃ xd, (Val.mk xk xn xs xl).depth = xd := ⟨_, rfl⟩
        have hxl : xd ≤ d' + 1 := by
          rw [← hxd]
          have := (Val.mk xk xn xs xl).depth_nest
          rw [Val.nest] at this
          simp only [Val.elems] at hnx
          omega
        rw [hxd] at hyes
        have HK := Lib.hid (show okL (l.take (k + 1)) = true by rw [HT.out, okL_snoc, hob, hoe]; rfl)
        have HD := Lib.hid (show depthL (l.take (k + 1)) = max (depthL (l.take k)) xd by rw [HT.out, depthL_snoc, hxd])
        have HC := Lib.hid hyes
        clear hob hyes hoe hxd hok
        generalize depthL (l.take k) = dl at hnest HD
        go_wp2_with fail
        refine (IH.out d' (by omega) (.mk xk xn xs xl) _ _ ((HE.out.below ((Below.refl _ _).alloc (Nat.le_refl _) _)).more (by simp))).mono ?_
        rw [HC.out]
        rintro e w1 ⟨rfl, hb1⟩
        have hB' := hB.trans ((((Below.refl wr.heap.size wr).alloc (Nat.le_refl _) _).trans (hb1.mono (by simp))).mono hB.size)
        clear hb1 hB
        go_wp2
        all_goals
          refine ⟨⟨k + 1, by omega, by go_num, ?_, HK, hB'⟩, by simp [intOf]; omega⟩
          rw [HD.out]
          first
            | rfl
            | (congr 1; omega)
    · obtain rfl : k = n := by omega
      have hfull : l.take k = l := List.take_of_length_le (by rw [HN.out]; exact Nat.le_refl _)
      have hdep := HV.out.depths k
      have hoe := hok.out
      rw [hfull] at hoe hdep ⊢
      have hf : formT (.mk 3 0 [] l) = (((depthL l + 1 : Nat) : Int), true) := by
        have h1 : (Val.mk 3 0 [] l).okB = true := by rw [Val.okB, if_neg (by decide), if_neg (by decide), if_pos rfl, hoe]; rfl
        rw [form_ok h1, Val.depth, if_pos rfl]
      have e : ((depthL l + 1 : Nat) : Int) = (depthL l : Int) + 1 := by omega
      rw [e] at hf
      have HF := Lib.hid (hr.out.symm.trans hf)
      clear hok hfull hoe hf e
      generalize depthL l = dl at hdep HF ⊢
      go_wp2
      obtain ⟨h1, h2⟩ := Prod.mk.inj HF.out
      go_ret2
      exact ⟨by rw [h1, h2]; rfl, hB⟩

theorem FormedAll.all (d : Nat) (hd : d ≤ 1000) : FormedAll d := by
  induction d using Nat.strongRecOn with
  | _ d ih =>
    intro x L w hV
    obtain ⟨k, n, s, l⟩ := x
    obtain ⟨A, c, rfl, hm⟩ := hV.form
    dsimp only [Val.elems] at hV hm
    dsimp only [Val.v, Val.kind, Val.num, Val.str]
    unfold maxLen at hm
    have hi : s.isEmpty = decide (s = []) := isEmpty_iff
    have hj : l.isEmpty = decide (l.length = 0) := len_isEmpty
    by_cases h1 : k = 1
    · subst h1
      have e : formT (.mk 1 n s l) = (0, (decide (s = []) && decide (l.length = 0))) := by
        have : (Val.mk 1 n s l).okB = (decide (s = []) && decide (l.length = 0)) := by rw [Val.okB, if_pos rfl, hi, hj]
        rw [form_leaf rfl, this]
      rw [e]
      exact cFormed_1 n s A _ c w (by simp [Val.elems] at hm ⊢; omega)
    by_cases h2 : k = 2
    · subst h2
      have e : formT (.mk 2 n s l) = (0, (decide (n = 0) && decide (l.length = 0))) := by
        have : (Val.mk 2 n s l).okB = (decide (n = 0) && decide (l.length = 0)) := by rw [Val.okB, if_neg (by decide), if_pos rfl, hj]
        rw [form_leaf rfl, this]
      rw [e]
      exact cFormed_2 n s A _ c w (by simp [Val.elems] at hm ⊢; omega)
    by_cases h3 : k = 3
    · subst h3
      by_cases h4 : n = 0 ∧ s = []
      · obtain ⟨rfl, rfl⟩ := h4
        exact cFormed_3 d hd (fun d' hd' => ih d' hd' (by omega)) l A c w hV _ _ (Lib.hid rfl)
      · have e : formT (.mk 3 n s l) = (0, false) := form_no (by
          rw [Val.okB, if_neg (by decide), if_neg (by decide), if_pos rfl, hi]
          by_cases h5 : n = 0
          · rw [decide_eq_false (p := s = []) (fun h6 => h4 ⟨h5, h6⟩)]; simp
          · rw [decide_eq_false h5]; rfl)
        rw [e]
        exact cFormed_3no n s A _ c w (by
          by_cases h5 : n = 0
          · exact Lib.hid (.inr fun h6 => h4 ⟨h5, h6⟩)
          · exact Lib.hid (.inl h5))
    · have e : formT (.mk k n s l) = (0, false) := form_no (by rw [Val.okB, if_neg h1, if_neg h2, if_neg h3])
      rw [e]
      exact cFormed_other k n s A _ c w (by omega)

end Go.Proofs.Ytmbifmmkccghfaa

/-
  Contracts of Check of codec, and of Formed of the reference. No condition.
-/
namespace Go.Proofs.Ytmbifmmkccghfaa
open Go.RowKit

def chkT (x : Val) : Int := if x.okB = true then (if 16 < x.depth then 2 else 0) else 1
theorem chk_no {x : Val} (h : x.okB = false) : chkT x = 1 := if_neg (by rw [h]; decide)
theorem chk_deep {x : Val} (h : x.okB = true) (h2 : 16 < x.depth) : chkT x = 2 := by rw [chkT, if_pos h, if_pos h2]
theorem chk_ok {x : Val} (h : x.okB = true) (h2 : ¬ 16 < x.depth) : chkT x = 0 := by rw [chkT, if_pos h, if_neg h2]
theorem ValsAt.depth {w : World} {B d : Nat} {L : Value} {x : Val} (h : ValsAt w B d L x.elems) : x.depth ≤ d + 1 := by
  have h1 := h.nest
  have h2 := x.depth_nest
  rw [x.nest_elems] at h2
  omega

set_option maxHeartbeats 1000000 in
theorem cCheck_any (d : Nat) (hd : d ≤ 1000) (x : Val) (L : Value) (w : World) (hV : ValsAt w w.heap.size d L x.elems) :
    Calls Try.prog 79 #[x.v L] w fun e w' => e = .returned (.int .i64 (chkT x)) ∧ Below w.heap.size w w' := by
  obtain ⟨A, c, rfl, hm⟩ := hV.form
  have hst := (Below.refl w.heap.size w).alloc (Nat.le_refl _) (.cells #[.int .i64 x.kind, .int .i64 x.num, .string (strB x.str), .slice A x.elems.length c] 85)
  have HF := Lib.hid (FormedAll.all d hd x _ _ (hV.later hst))
  have hdep := hV.depth
  have hst := Lib.hid hst
  clear hV
  dsimp only [Val.v] at HF hst ⊢
  rcases hob : x.okB with _ | _
  · rw [form_no hob] at HF
    rw [chk_no hob]
    clear hob hdep
    generalize x.kind = k, x.num = n, strB x.str = s, x.elems.length = m at HF hst ⊢
    go_enter Try.func79, Try.ntmps79
    go_wp2_with fail
    refine HF.out.mono ?_
    rintro e w1 ⟨rfl, hb⟩
    go_wp2
    go_ret
    exact ⟨rfl, hst.out.trans (hb.mono (by simp))⟩
  · rw [form_ok hob] at HF
    by_cases h16 : 16 < x.depth
    · rw [chk_deep hob h16]
      clear hob
      generalize x.kind = k, x.num = n, strB x.str = s, x.elems.length = m, x.depth = dp at HF hst h16 hdep ⊢
      go_enter Try.func79, Try.ntmps79
      go_wp2_with fail
      refine HF.out.mono ?_
      rintro e w1 ⟨rfl, hb⟩
      go_wp2
      go_ret
      exact ⟨rfl, hst.out.trans (hb.mono (by simp))⟩
    · rw [chk_ok hob h16]
      clear hob
      generalize x.kind = k, x.num = n, strB x.str = s, x.elems.length = m, x.depth = dp at HF hst h16 hdep ⊢
      go_enter Try.func79, Try.ntmps79
      go_wp2_with fail
      refine HF.out.mono ?_
      rintro e w1 ⟨rfl, hb⟩
      go_wp2
      go_ret
      exact ⟨rfl, hst.out.trans (hb.mono (by simp))⟩

set_option maxRecDepth 100000 in
set_option maxHeartbeats 2000000 in
theorem rFormed_other (k n : Int) (s : List UInt8) (A : Option Addr) (m c : Nat) (w : World) (h1 : ¬ k = 1) (h2 : ¬ k = 2) (h3 : ¬ k = 3) :
    Calls Try.prog 88 #[.agg #[.int .i64 k, .int .i64 n, .string (strB s), .slice A m c]] w fun e w' => e = .returned (.bool false) ∧ Below w.heap.size w w' := by
  generalize strB s = b at *
  go_enter Try.func88, Try.ntmps88
  go_wp2
  all_goals
    go_ret
    exact ⟨rfl, (Below.refl _ _).alloc (Nat.le_refl _) _⟩

set_option maxRecDepth 100000 in
set_option maxHeartbeats 2000000 in
theorem rFormed_1 (n : Int) (s : List UInt8) (A : Option Addr) (m c : Nat) (w : World) (hm : m ≤ 9223372036854775807) :
    Calls Try.prog 88 #[.agg #[.int .i64 1, .int .i64 n, .string (strB s), .slice A m c]] w fun e w' => e = .returned (.bool (s.isEmpty && decide (m = 0))) ∧ Below w.heap.size w w' := by
  have hs := strB_toList s
  generalize strB s = b at *
  subst hs
  rcases he : b.toList.isEmpty with _ | _
  · rw [Bool.false_and]
    go_enter Try.func88, Try.ntmps88
    go_wp2
    all_goals
      go_ret
      exact ⟨rfl, (Below.refl _ _).alloc (Nat.le_refl _) _⟩
  · rw [Bool.true_and]
    by_cases h : m = 0
    · subst h
      go_enter Try.func88, Try.ntmps88
      go_wp2
      all_goals
        go_ret
        exact ⟨rfl, (Below.refl _ _).alloc (Nat.le_refl _) _⟩
    · rw [decide_eq_false h]
      have h3 : ((m : Int) == 0) = false := by simp; omega
      go_enter Try.func88, Try.ntmps88
      go_wp2
      all_goals
        go_ret
        exact ⟨rfl, (Below.refl _ _).alloc (Nat.le_refl _) _⟩

set_option maxRecDepth 100000 in
set_option maxHeartbeats 2000000 in
theorem rFormed_2 (n : Int) (s : List UInt8) (A : Option Addr) (m c : Nat) (w : World) (hm : m ≤ 9223372036854775807) :
    Calls Try.prog 88 #[.agg #[.int .i64 2, .int .i64 n, .string (strB s), .slice A m c]] w fun e w' => e = .returned (.bool (decide (n = 0) && decide (m = 0))) ∧ Below w.heap.size w w' := by
  generalize strB s = b at *
  by_cases h1 : n = 0
  · subst h1
    rw [decide_eq_true rfl, Bool.true_and]
    by_cases h : m = 0
    · subst h
      go_enter Try.func88, Try.ntmps88
      go_wp2
      all_goals
        go_ret
        exact ⟨rfl, (Below.refl _ _).alloc (Nat.le_refl _) _⟩
    · rw [decide_eq_false h]
      have h3 : ((m : Int) == 0) = false := by simp; omega
      go_enter Try.func88, Try.ntmps88
      go_wp2
      all_goals
        go_ret
        exact ⟨rfl, (Below.refl _ _).alloc (Nat.le_refl _) _⟩
  · rw [decide_eq_false h1, Bool.false_and]
    go_enter Try.func88, Try.ntmps88
    go_wp2
    all_goals
      go_ret
      exact ⟨rfl, (Below.refl _ _).alloc (Nat.le_refl _) _⟩

def FormedR (d : Nat) : Prop := ∀ (x : Val) (L : Value) (w : World), ValsAt w w.heap.size d L x.elems →
    Calls Try.prog 88 #[x.v L] w fun e w' => e = .returned (.bool x.okB) ∧ Below w.heap.size w w'
theorem ok_of_list {n : Int} {s : List UInt8} {l : List Val} : (Val.mk 3 n s l).okB = (decide (n = 0) && (s.isEmpty && okL l)) := by rw [Val.okB, if_neg (by decide), if_neg (by decide), if_pos rfl]

set_option maxRecDepth 100000 in
set_option maxHeartbeats 4000000 in
theorem rFormed_3 (d : Nat) (ih : ∀ d', d' < d → FormedR d') (m : Int) (s : List UInt8) (l : List Val) (A : Option Addr) (c : Nat) (w : World) (hV : ValsAt w w.heap.size d (.slice A l.length c) l) (rb : Bool) (hr : Hid ((Val.mk 3 m s l).okB = rb)) :
    Calls Try.prog 88 #[.agg #[.int .i64 3, .int .i64 m, .string (strB s), .slice A l.length c]] w fun e w' => e = .returned (.bool rb) ∧ Below w.heap.size w w' := by
  obtain ⟨_, _, _, hm⟩ := hV.form
  unfold maxLen at hm
  obtain ⟨n, hn⟩ : ∃ n, l.length = n := ⟨_, rfl⟩
  rw [hn] at hm hV ⊢
  have HN := Lib.hid hn
  have HV := Lib.hid hV
  have IH := Lib.hid ih
  have hs : Hid ((strB s).toList = s) := strB_toList s
  generalize strB s = z at hs ⊢
  have hB := (Below.refl w.heap.size w).alloc (Nat.le_refl _) (.cells #[.int .i64 3, .int .i64 m, .string z, .slice A n c] 85)
  have X := Box.new w [.int .i64 3, .int .i64 m, .string z, .slice A n c] 85
  clear hn hV ih
  go_enter Try.func88, Try.ntmps88
  go_wp2
  go_loopw [3] (fun i wr => ∃ k : Nat, k ≤ n ∧ i = .int .i64 k ∧ Hid (okL (l.take k) = true) ∧ Below w.heap.size w wr ∧ Box wr w.heap.size [.int .i64 3, .int .i64 m, .string z, .slice A n c]) (fun i _ => n - (intOf i).toNat)
  case atStart => exact ⟨0, Nat.zero_le _, rfl, Lib.hid rfl, hB, X⟩
  case round =>
    clear hB X
    obtain ⟨k, hk, rfl, hok, hB, X⟩ := hrel
    have x0 : wr.cell? ⟨w.heap.size, 0, none⟩ = some (.int .i64 3) := X.cell 0
    have x1 : wr.cell? ⟨w.heap.size, 1, none⟩ = some (.int .i64 m) := X.cell 1
    have x2 : wr.cell? ⟨w.heap.size, 2, none⟩ = some (.string z) := X.cell 2
    have x3 : wr.cell? ⟨w.heap.size, 3, none⟩ = some (.slice A n c) := X.cell 3
    have xz := X.lt
    by_cases hlt : k < n
    · have hlt' : k < l.length := by rw [HN.out]; exact hlt
      obtain ⟨d', b, off, V, rfl, rfl, hb, c0, c1, c2, c3, hE⟩ := HV.out.elem hlt'
      have htk := List.take_succ_eq_append_getElem hlt'
      generalize l[k] = x at c0 c1 c2 c3 hE htk
      obtain ⟨xk, xn, xs, xl⟩ := x
      obtain ⟨A', c', rfl, _⟩ := hE.form
      dsimp only [Val.kind, Val.num, Val.str, Val.elems] at c0 c1 c2 c3 hE
      replace c0 := (hB.cell (p := ⟨b, off + k * 4, none⟩) hb).trans c0
      replace c1 := (hB.cell (p := ⟨b, off + k * 4 + 1, none⟩) hb).trans c1
      replace c2 := (hB.cell (p := ⟨b, off + k * 4 + 2, none⟩) hb).trans c2
      replace c3 := (hB.cell (p := ⟨b, off + k * 4 + 3, none⟩) hb).trans c3
      have HE := Lib.hid ((hE.below hB).more hB.size)
      have HT := Lib.hid htk
      clear hE htk
      obtain ⟨q, hob⟩ : ∃ q, (Val.mk xk xn xs xl).okB = q := ⟨_, rfl⟩
      have HC := Lib.hid hob
      clear hob
      go_wp2_with fail
      refine (IH.out d' (by omega) (.mk xk xn xs xl) _ _ HE.out).mono ?_
      rw [HC.out]
      rintro e w1 ⟨rfl, hb1⟩
      have hB' := hB.trans (hb1.mono hB.size)
      have X' := X.later hb1
      clear hb1 hB X x0 x1 x2 x3
      cases q
      · have hf : rb = false := by
          rw [← hr.out, ok_of_list, okL_take (k := k + 1) (by rw [HT.out, okL_snoc, HC.out, Bool.and_false])]
          simp
        have HF := Lib.hid hf
        clear hf
        go_wp2
        go_ret
        exact ⟨by rw [HF.out]; rfl, hB'⟩
      · have HK := Lib.hid (show okL (l.take (k + 1)) = true by rw [HT.out, okL_snoc, HC.out, hok.out]; rfl)
        go_wp2
        exact ⟨⟨k + 1, by omega, by go_num, HK, hB', X'⟩, by simp [intOf]; omega⟩
    · obtain rfl : k = n := by omega
      have hfull : l.take k = l := List.take_of_length_le (by rw [HN.out]; exact Nat.le_refl _)
      have hoe := hok.out
      rw [hfull] at hoe
      have hf : rb = (decide (m = 0) && z.toList.isEmpty) := by rw [← hr.out, ok_of_list, hoe, hs.out, Bool.and_true]
      have HF := Lib.hid hf
      clear hok hfull hoe hf
      by_cases h1 : m = 0
      · subst h1
        rcases he : z.toList.isEmpty with _ | _
        all_goals
          have HF2 := Lib.hid (HF.out.trans (by rw [he] : _ = (decide ((0 : Int) = 0) && _)))
          go_wp2
          go_ret
          exact ⟨by rw [HF2.out]; rfl, hB⟩
      · have HF2 := Lib.hid (HF.out.trans (by rw [decide_eq_false h1]; rfl : _ = false))
        go_wp2
        go_ret
        exact ⟨by rw [HF2.out]; rfl, hB⟩

theorem FormedR.all (d : Nat) : FormedR d := by
  induction d using Nat.strongRecOn with
  | _ d ih =>
    intro x L w hV
    obtain ⟨k, n, s, l⟩ := x
    obtain ⟨A, c, rfl, hm⟩ := hV.form
    dsimp only [Val.elems] at hV hm
    dsimp only [Val.v, Val.kind, Val.num, Val.str]
    unfold maxLen at hm
    have hj : l.isEmpty = decide (l.length = 0) := len_isEmpty
    by_cases h1 : k = 1
    · subst h1
      rw [Val.okB, if_pos rfl, hj]
      exact rFormed_1 n s A _ c w (by simp [Val.elems] at hm ⊢; omega)
    by_cases h2 : k = 2
    · subst h2
      rw [Val.okB, if_neg (by decide), if_pos rfl, hj]
      exact rFormed_2 n s A _ c w (by simp [Val.elems] at hm ⊢; omega)
    by_cases h3 : k = 3
    · subst h3
      exact rFormed_3 d ih n s l A c w hV _ (Lib.hid rfl)
    · rw [Val.okB, if_neg h1, if_neg h2, if_neg h3]
      exact rFormed_other k n s A _ c w h1 h2 h3

end Go.Proofs.Ytmbifmmkccghfaa

/-
  Contracts of Depth and Check of the reference. No condition.
-/
namespace Go.Proofs.Ytmbifmmkccghfaa
open Go.RowKit

def DepthR (d : Nat) : Prop := ∀ (x : Val) (L : Value) (w : World), ValsAt w w.heap.size d L x.elems →
    Calls Try.prog 89 #[x.v L] w fun e w' => e = .returned (.int .i64 x.depth) ∧ Below w.heap.size w w'
theorem depth_list {n : Int} {s : List UInt8} {l : List Val} : (Val.mk 3 n s l).depth = depthL l + 1 := by rw [Val.depth, if_pos rfl]

set_option maxRecDepth 100000 in
set_option maxHeartbeats 2000000 in
theorem rDepth_leaf (k n : Int) (b : ByteArray) (A : Option Addr) (m c : Nat) (w : World) (h : ¬ k = 3) :
    Calls Try.prog 89 #[.agg #[.int .i64 k, .int .i64 n, .string b, .slice A m c]] w fun e w' => e = .returned (.int .i64 0) ∧ Below w.heap.size w w' := by
  go_enter Try.func89, Try.ntmps89
  go_wp2
  all_goals
    go_ret
    exact ⟨rfl, (Below.refl _ _).alloc (Nat.le_refl _) _⟩

set_option maxRecDepth 100000 in
set_option maxHeartbeats 4000000 in
theorem rDepth_3 (d : Nat) (hd : d ≤ 1000) (ih : ∀ d', d' < d → DepthR d') (m : Int) (z : ByteArray) (l : List Val) (A : Option Addr) (c : Nat) (w : World) (hV : ValsAt w w.heap.size d (.slice A l.length c) l) (rb : Int) (hr : Hid (((depthL l + 1 : Nat) : Int) = rb)) :
    Calls Try.prog 89 #[.agg #[.int .i64 3, .int .i64 m, .string z, .slice A l.length c]] w fun e w' => e = .returned (.int .i64 rb) ∧ Below w.heap.size w w' := by
  obtain ⟨_, _, _, hm⟩ := hV.form
  unfold maxLen at hm
  obtain ⟨n, hn⟩ : ∃ n, l.length = n := ⟨_, rfl⟩
  rw [hn] at hm hV ⊢
  have HN := Lib.hid hn
  have HV := Lib.hid hV
  have IH := Lib.hid ih
  have hB := (Below.refl w.heap.size w).alloc (Nat.le_refl _) (.cells #[.int .i64 3, .int .i64 m, .string z, .slice A n c] 85)
  have X := Box.new w [.int .i64 3, .int .i64 m, .string z, .slice A n c] 85
  clear hn hV ih
  go_enter Try.func89, Try.ntmps89
  go_wp2
  go_loopw [3, 4] (fun dep i wr => ∃ k : Nat, k ≤ n ∧ i = .int .i64 k ∧ dep = .int .i64 (depthL (l.take k)) ∧ Below w.heap.size w wr ∧ Box wr w.heap.size [.int .i64 3, .int .i64 m, .string z, .slice A n c]) (fun _ i _ => n - (intOf i).toNat)
  case atStart => exact ⟨0, Nat.zero_le _, rfl, by simp [depthL], hB, X⟩
  case round =>
    clear hB X
    obtain ⟨k, hk, rfl, rfl, hB, X⟩ := hrel
    have hnest := HV.out.depths k
    have x3 : wr.cell? ⟨w.heap.size, 3, none⟩ = some (.slice A n c) := X.cell 3
    have xz := X.lt
    by_cases hlt : k < n
    · have hlt' : k < l.length := by rw [HN.out]; exact hlt
      obtain ⟨d', b, off, V, rfl, rfl, hb, c0, c1, c2, c3, hE⟩ := HV.out.elem hlt'
      have htk := List.take_succ_eq_append_getElem hlt'
      generalize l[k] = x at c0 c1 c2 c3 hE htk
      obtain ⟨xk, xn, xs, xl⟩ := x
      have hxl := hE.depth
      obtain ⟨A', c', rfl, _⟩ := hE.form
      dsimp only [Val.kind, Val.num, Val.str, Val.elems] at c0 c1 c2 c3 hE
      replace c0 := (hB.cell (p := ⟨b, off + k * 4, none⟩) hb).trans c0
      replace c1 := (hB.cell (p := ⟨b, off + k * 4 + 1, none⟩) hb).trans c1
      replace c2 := (hB.cell (p := ⟨b, off + k * 4 + 2, none⟩) hb).trans c2
      replace c3 := (hB.cell (p := ⟨b, off + k * 4 + 3, none⟩) hb).trans c3
      have HE := Lib.hid ((hE.below hB).more hB.size)
      obtain ⟨xd, hxd⟩ : ∃ xd, (Val.mk xk xn xs xl).depth = xd := ⟨_, rfl⟩
      have HD := Lib.hid (show depthL (l.take (k + 1)) = max (depthL (l.take k)) xd by rw [htk, depthL_snoc, hxd])
      rw [hxd] at hxl
      have HC := Lib.hid hxd
      clear hE htk hxd
      generalize depthL (l.take k) = dl at hnest HD
      go_wp2_with fail
      refine (IH.out d' (by omega) (.mk xk xn xs xl) _ _ HE.out).mono ?_
      rw [HC.out]
      rintro e w1 ⟨rfl, hb1⟩
      have hB' := hB.trans (hb1.mono hB.size)
      have X' := X.later hb1
      clear hb1 hB X x3 xz c0 c1 c2 c3
      go_wp2
      all_goals
        refine ⟨⟨k + 1, by omega, by go_num, ?_, hB', X'⟩, by simp [intOf]; omega⟩
        rw [HD.out]
        first
          | rfl
          | (congr 1; omega)
    · obtain rfl : k = n := by omega
      have hfull : l.take k = l := List.take_of_length_le (by rw [HN.out]; exact Nat.le_refl _)
      rw [hfull] at hnest ⊢
      have e : rb = (depthL l : Int) + 1 := by rw [← hr.out]; omega
      have HF := Lib.hid e
      clear hfull e
      generalize depthL l = dl at hnest HF ⊢
      go_wp2
      go_ret
      exact ⟨by rw [HF.out]; rfl, hB⟩

theorem DepthR.all (d : Nat) (hd : d ≤ 1000) : DepthR d := by
  induction d using Nat.strongRecOn with
  | _ d ih =>
    intro x L w hV
    obtain ⟨k, n, s, l⟩ := x
    obtain ⟨A, c, rfl, hm⟩ := hV.form
    dsimp only [Val.elems] at hV hm
    dsimp only [Val.v, Val.kind, Val.num, Val.str]
    by_cases h3 : k = 3
    · subst h3
      rw [depth_list]
      exact rDepth_3 d hd (fun d' hd' => ih d' hd' (by omega)) n _ l A c w hV _ (Lib.hid rfl)
    · rw [Val.depth, if_neg h3]
      exact rDepth_leaf k n _ A _ c w h3

end Go.Proofs.Ytmbifmmkccghfaa

/-
  Equality of values: contracts of Same of codec and of the reference, and of slices.EqualFunc. No condition.
-/
namespace Go.Proofs.Ytmbifmmkccghfaa
open Go.RowKit

mutual
def Val.same : Val → Val → Bool
  | .mk k n s l, .mk k' n' s' l' => decide (k = k') && (decide (n = n') && (decide (s = s') && sameL l l'))
def sameL : List Val → List Val → Bool
  | [], [] => true
  | [], _ :: _ => false
  | _ :: _, [] => false
  | x :: l, y :: m => x.same y && sameL l m
end
def SamePre (l m : List Val) (k : Nat) : Prop := ∀ j (h1 : j < l.length) (h2 : j < m.length), j < k → (l[j]).same m[j] = true
theorem SamePre.zero (l m : List Val) : SamePre l m 0 := fun j _ _ h => by omega
theorem strB_inj {s t : List UInt8} : strB s = strB t ↔ s = t := by
  constructor
  · intro h
    have := congrArg ByteArray.toList h
    rwa [strB_toList, strB_toList] at this
  · rintro rfl; rfl

end Go.Proofs.Ytmbifmmkccghfaa

/-
  Contracts of Same of codec and of the reference. No condition.
-/
namespace Go.Proofs.Ytmbifmmkccghfaa
open Go.RowKit

end Go.Proofs.Ytmbifmmkccghfaa

/-
  Contract of Same of the reference. No condition.
-/
namespace Go.Proofs.Ytmbifmmkccghfaa
open Go.RowKit

end Go.Proofs.Ytmbifmmkccghfaa

/-
  Contracts of count and Few of the reference, and of few of the laws' file. No condition.
-/
namespace Go.Proofs.Ytmbifmmkccghfaa
open Go.RowKit

mutual
/-- Numbers are in their range, and no string is longer than a string can be. -/
def Val.fits : Val → Prop
  | .mk _ n s l => (-9223372036854775808 ≤ n ∧ n ≤ 9223372036854775807) ∧ (s.length ≤ maxLen ∧ l.length ≤ maxLen) ∧ fitsL l
def fitsL : List Val → Prop
  | [] => True
  | x :: l => x.fits ∧ fitsL l
end
theorem fits_mem {l : List Val} (h : fitsL l) {x : Val} (hx : x ∈ l) : x.fits := by
  induction l with
  | nil => cases hx
  | cons y l ih =>
    rw [fitsL] at h
    rcases List.mem_cons.1 hx with rfl | hx
    · exact h.1
    · exact ih h.2 hx
theorem Val.fits.parts {x : Val} (h : x.fits) : (-9223372036854775808 ≤ x.num ∧ x.num ≤ 9223372036854775807) ∧ (x.str.length ≤ maxLen ∧ x.elems.length ≤ maxLen) ∧ fitsL x.elems := by
  obtain ⟨k, n, s, l⟩ := x
  rw [Val.fits] at h
  exact h
theorem Val.fits.nums {x : Val} (h : x.fits) : -9223372036854775808 ≤ x.num ∧ x.num ≤ 9223372036854775807 := h.parts.1
theorem Val.fits.strs {x : Val} (h : x.fits) : x.str.length ≤ maxLen := h.parts.2.1.1
theorem Val.fits.lens {x : Val} (h : x.fits) : x.elems.length ≤ maxLen := h.parts.2.1.2
theorem Val.fits.els {x : Val} (h : x.fits) : fitsL x.elems := h.parts.2.2

end Go.Proofs.Ytmbifmmkccghfaa

/-
  Contracts of Few of the reference, and of few of the laws' file. No condition.
-/
namespace Go.Proofs.Ytmbifmmkccghfaa
open Go.RowKit

end Go.Proofs.Ytmbifmmkccghfaa

/-
  Encodings as data, and contracts of newWriter and of its closures for numbers and texts. No condition.
-/
namespace Go.Proofs.Ytmbifmmkccghfaa
open Go.RowKit
attribute [local go_sem ↓ high] app_named

mutual
/-- The encoding of a value. -/
def Val.enc : Val → Bs
  | .mk k n s l => if k = 1 then 1 :: numT (zig n) else if k = 2 then 2 :: (numT s.length ++ s) else 3 :: (numT l.length ++ encL l)
def encL : List Val → Bs
  | [] => []
  | x :: l => x.enc ++ encL l
end
theorem enc_1 {n : Int} {s : Bs} {l : List Val} : (Val.mk 1 n s l).enc = [1] ++ numT (zig n) := by rw [Val.enc, if_pos rfl]; rfl
theorem enc_2 {n : Int} {s : Bs} {l : List Val} : (Val.mk 2 n s l).enc = [2] ++ numT s.length ++ s := by rw [Val.enc, if_neg (by decide), if_pos rfl, List.append_assoc]; rfl
theorem enc_3 {n : Int} {s : Bs} {l : List Val} : (Val.mk 3 n s l).enc = [3] ++ numT l.length ++ encL l := by rw [Val.enc, if_neg (by decide), if_neg (by decide), List.append_assoc]; rfl
theorem encL_append (l m : List Val) : encL (l ++ m) = encL l ++ encL m := by
  induction l with
  | nil => rfl
  | cons x l ih => rw [List.cons_append, encL, encL, ih, List.append_assoc]
theorem encL_snoc (l : List Val) (x : Val) : encL (l ++ [x]) = encL l ++ x.enc := by rw [encL_append, encL, encL, List.append_nil]

def Wtr (w : World) (pb cb : Nat) : Prop :=
  Box w pb [.nilFunc, .func (.func 95) #[] #[], .func (.func 98) #[] #[], .func (.func 99) #[] #[.pointer (some ⟨cb, 0, none⟩)]] ∧ Box w cb [.pointer (some ⟨pb, 0, none⟩)]
theorem Wtr.below {w w' : World} {pb cb B : Nat} (h : Wtr w pb cb) (h1 : pb < B) (h2 : cb < B) (hb : Below B w w') : Wtr w' pb cb := ⟨h.1.keep h1 hb, h.2.keep h2 hb⟩
theorem newWriter_any (w : World) : Calls Try.prog 80 #[] w fun e w' => e = .returned (.pointer (some ⟨w.heap.size, 0, none⟩)) ∧ Hid (Wtr w' w.heap.size (w.heap.size + 1)) ∧ Below w.heap.size w w' ∧ w.heap.size + 2 ≤ w'.heap.size := by
  go_enter Try.func80, Try.ntmps80
  go_wp2
  go_ret
  refine ⟨rfl, Lib.hid ⟨?_, ?_⟩, ((Below.refl _ _).alloc (Nat.le_refl _) _).alloc (by simp) _, by simp⟩
  · exact (Box.new w [.nilFunc, .func (.func 95) #[] #[], .func (.func 98) #[] #[], .func (.func 99) #[] #[.pointer (some ⟨w.heap.size + 1, 0, none⟩)]] _).alloc _
  · exact Box.newAt [.pointer (some ⟨w.heap.size, 0, none⟩)] _ (by simp)

set_option maxRecDepth 100000 in
set_option maxHeartbeats 4000000 in
theorem cW1_any (n : Int) (h1 : -9223372036854775808 ≤ n) (h2 : n ≤ 9223372036854775807) (sb : ByteArray) (A : Option Addr) (m c : Nat) (base : Nat) (v : Value) (l : Bs) (w : World) (ho : OwnBs w base v l) (hbase : base ≤ w.heap.size) (hl : l.length ≤ 90000000) :
    Calls Try.prog 95 #[v, .agg #[.int .i64 1, .int .i64 n, .string sb, .slice A m c]] w (RetApp (l ++ ([1] ++ numT (zig n))) base v w) := by
  have hst := (Below.refl w.heap.size w).alloc (Nat.le_refl _) (.cells #[.int .i64 1, .int .i64 n, .string sb, .slice A m c] 85)
  have hst2 := (hst.drew).alloc (by simp) (.cells #[.int .u8 1] 5)
  have X := Box.newAt (w := (w.alloc (.cells #[.int .i64 1, .int .i64 n, .string sb, .slice A m c] 85)).drew) (n := w.heap.size + 1) [.int .u8 1] 5 (by simp)
  obtain ⟨v', w', hr, hO, hg, hL⟩ := app_one 1 (ho.below hst2) X (Nat.le_trans hbase hst2.size) (by omega)
  have HN := Lib.hid (cNumeral_any (zig n) (zig_lt h1 h2) base v' (l ++ [1]) w' hO (Nat.le_trans hbase (Nat.le_trans hst2.size hg.size)) (by rw [List.length_append]; simp; omega))
  have HG := Lib.hid (grownBy_below hst2 hg)
  have HL := Lib.hid (hL.below hst2)
  have HH := Lib.hid (Nat.le_trans hst2.size hg.size)
  have hE : (l ++ [1]) ++ numT (zig n) = l ++ ([1] ++ numT (zig n)) := List.append_assoc _ _ _
  rw [hE] at HN
  generalize l ++ ([1] ++ numT (zig n)) = T at HN ⊢
  have R : (appF #[43, 43] 43 #[v, .slice (some ⟨w.heap.size + 1, 0, none⟩) 1 1]).run Try.prog ((w.alloc (.cells #[.int .i64 1, .int .i64 n, .string sb, .slice A m c] 85)).alloc (.cells #[.int .u8 1] 5)).drew = .ok v' w' := hr
  have Y := (Box.new w [.int .i64 1, .int .i64 n, .string sb, .slice A m c] 85).drew.alloc (.cells #[.int .u8 1] 5)
  have Y2 := Y.grown hg (fun e => by have := (ho.lt e.symm).2; omega)
  have y1 : w'.cell? ⟨w.heap.size, 1, none⟩ = some (.int .i64 n) := Y2.cell 1
  have yz : w.heap.size < w'.heap.size := Y2.lt
  have hne : Hid (some w.heap.size ≠ v'.ownBlock) := by
    rcases hL with h | ⟨g, h, hg2⟩
    · rw [Hid, h]
      exact fun e => by have := (ho.lt e.symm).2; omega
    · rw [Hid, h]
      intro e
      injection e with e
      simp at hg2
      omega
  clear hr hO hg hL hst hst2 X ho hE Y Y2
  go_enter Try.func95, Try.ntmps95
  go_wp2_with fail
  go_region_held3 (fun w' => w'.cell? ⟨w.heap.size, 1, none⟩ = some (.int .i64 n)) (go_keep) (first | (go_at_call 97; refine (cUnsigned_any n _ h1 h2).mono ?_; rintro e w9 ⟨rfl, rfl⟩) | (go_at_call 96; refine HN.out.mono ?_; rintro e w9 ⟨V, rfl, hOV, hGV, hLV⟩; have y9 := hGV.cell y1 hne.out))
  all_goals
    have HR : Hid (RetApp T base v w (.returned V) w9) := ⟨V, rfl, hOV, grownBy_trans HG.out HL.out hGV, HL.out.trans HH.out hLV⟩
    clear hOV hGV hLV HG HL HH R HN y9 y1
    go_wp2
    go_ret
    exact HR.out

set_option maxRecDepth 100000 in
set_option maxHeartbeats 4000000 in
theorem cW2_any (n : Int) (s : Bs) (hs : s.length ≤ 9223372036854775807) (A : Option Addr) (m c : Nat) (base : Nat) (v : Value) (l : Bs) (w : World) (ho : OwnBs w base v l) (hbase : base ≤ w.heap.size) (hl : l.length + s.length ≤ 90000000) :
    Calls Try.prog 98 #[v, .agg #[.int .i64 2, .int .i64 n, .string (strB s), .slice A m c]] w (RetApp (l ++ ([2] ++ numT s.length ++ s)) base v w) := by
  have hst := (Below.refl w.heap.size w).alloc (Nat.le_refl _) (.cells #[.int .i64 2, .int .i64 n, .string (strB s), .slice A m c] 85)
  have hst2 := (hst.drew).alloc (by simp) (.cells #[.int .u8 2] 5)
  have X := Box.newAt (w := (w.alloc (.cells #[.int .i64 2, .int .i64 n, .string (strB s), .slice A m c] 85)).drew) (n := w.heap.size + 1) [.int .u8 2] 5 (by simp)
  obtain ⟨v', w', hr, hO, hg, hL⟩ := app_one 2 (ho.below hst2) X (Nat.le_trans hbase hst2.size) (by omega)
  have HN := Lib.hid (cNumeral_any s.length (by omega) base v' (l ++ [2]) w' hO (Nat.le_trans hbase (Nat.le_trans hst2.size hg.size)) (by rw [List.length_append]; simp; omega))
  have HG := Lib.hid (grownBy_below hst2 hg)
  have HL := Lib.hid (hL.below hst2)
  have HH := Lib.hid (Nat.le_trans hst2.size hg.size)
  have R : (appF #[43, 43] 43 #[v, .slice (some ⟨w.heap.size + 1, 0, none⟩) 1 1]).run Try.prog ((w.alloc (.cells #[.int .i64 2, .int .i64 n, .string (strB s), .slice A m c] 85)).alloc (.cells #[.int .u8 2] 5)).drew = .ok v' w' := hr
  have Y := (Box.new w [.int .i64 2, .int .i64 n, .string (strB s), .slice A m c] 85).drew.alloc (.cells #[.int .u8 2] 5)
  have Y2 := Y.grown hg (fun e => by have := (ho.lt e.symm).2; omega)
  have y1 : w'.cell? ⟨w.heap.size, 2, none⟩ = some (.string (strB s)) := Y2.cell 2
  have yz : w.heap.size < w'.heap.size := Y2.lt
  have hne : Hid (some w.heap.size ≠ v'.ownBlock) := by
    rcases hL with h | ⟨g, h, hg2⟩
    · rw [Hid, h]
      exact fun e => by have := (ho.lt e.symm).2; omega
    · rw [Hid, h]
      intro e
      injection e with e
      simp at hg2
      omega
  have hE : ((l ++ [2]) ++ numT s.length) ++ s = l ++ ([2] ++ numT s.length ++ s) := by rw [List.append_assoc, List.append_assoc, List.append_assoc]
  have HE := Lib.hid hE
  have hll : ((l ++ [2]) ++ numT s.length).length + s.length ≤ 1000000000 := by
    have := numT_le (u := s.length) (by omega)
    simp only [List.length_append, List.length_singleton]
    omega
  have HLL := Lib.hid hll
  have hsz : (strB s).size = s.length := rfl
  have HSZ := Lib.hid hsz
  have hsz2 : (strB s).size ≤ 9223372036854775807 := by rw [hsz]; omega
  rw [← hsz] at HN
  have hap : ∀ V w9, Hid (w9.heap.size ≥ w'.heap.size) → OwnBs w9 base V ((l ++ [2]) ++ numT s.length) → ∃ v2 w10, (appF #[43, 9] 43 #[V, .string (strB s)]).run Try.prog w9 = .ok v2 w10 ∧ OwnBs w10 base v2 (l ++ ([2] ++ numT s.length ++ s)) ∧ w9.grownBy w10 V.ownBlock ∧ Lies w9 V v2 := by
    intro V w9 hz hO9
    rw [← HE.out]
    exact app_str hO9 (Nat.le_trans hbase (Nat.le_trans HH.out hz.out)) HLL.out
  have HAP := Lib.hid hap
  clear hap hr hO hg hL hst hst2 X hE Y Y2 hll HLL HE hsz
  generalize hT : l ++ ([2] ++ numT s.length ++ s) = T at HAP ⊢
  clear hT
  rw [HSZ.out] at HN
  generalize l ++ [2] ++ numT s.length = T1 at HN HAP
  rw [← HSZ.out] at HN
  clear HSZ
  generalize strB s = sb at R y1 HAP HN hsz2 ⊢
  go_enter Try.func98, Try.ntmps98
  go_wp2_with fail
  have hwr : IntKind.u64.wrap (sb.size : Int) = (sb.size : Int) := by rw [wrap_u64']; omega
  go_region_held3 (fun w' => w'.cell? ⟨w.heap.size, 2, none⟩ = some (.string sb)) (go_keep) (((go_at_call 96; (with_reducible refine HN.out.mono ?_); rintro e w9 ⟨V, rfl, hOV, hGV, hLV⟩; obtain ⟨v2, w10, hr2, hO2, hG2, hL2⟩ := HAP.out V w9 hGV.size hOV; have y9 := hGV.cell y1 hne.out; have hne9 : Hid (some w.heap.size ≠ V.ownBlock) := (by rcases hLV with h | ⟨g, h, hg9⟩ <;> rw [Hid, h]; exact hne.out; exact fun e => by injection e with e; omega); have y10 := hG2.cell y9 hne9.out)))
  all_goals
    have HR : Hid (RetApp T base v w (.returned v2) w10) := ⟨v2, rfl, hO2, grownBy_trans HG.out HL.out (grownBy_trans hGV hLV hG2), HL.out.trans HH.out (hLV.trans hGV.size hL2)⟩
    clear hOV hGV hLV HG HL HH R HN y9 y1 hr2 hO2 hG2 hL2 y10 HAP
    go_wp2
    go_ret
    exact HR.out

end Go.Proofs.Ytmbifmmkccghfaa

/-
  Contract of newWriter's closure for lists. (Printed by gen_co.py.)
-/
namespace Go.Proofs.Ytmbifmmkccghfaa
open Go.RowKit
attribute [local go_sem ↓ high] app_named

def W3 (d : Nat) : Prop := ∀ (n : Int) (sb : ByteArray) (l' : List Val) (A : Option Addr) (c : Nat) (base pb cb : Nat) (v : Value) (l : Bs) (w : World), okL l' = true → fitsL l' → ValsAt w base d (.slice A l'.length c) l' → OwnBs w base v l → base ≤ w.heap.size → Wtr w pb cb → pb < base → cb < base → l.length + (Val.mk 3 0 [] l').enc.length ≤ 80000000 →
    Calls Try.prog 99 #[v, .agg #[.int .i64 3, .int .i64 n, .string sb, .slice A l'.length c], .pointer (some ⟨cb, 0, none⟩)] w (RetApp (l ++ (Val.mk 3 0 [] l').enc) base v w)
theorem row_below {base B : Nat} {v : Value} {w w' : World} {l0 : Bs} (ho : OwnBs w base v l0) (hB : B ≤ base) (hs : base ≤ w.heap.size) (hg : w.grownBy w' v.ownBlock) : Below B w w' := below_grown (Below.refl B w) ho hB (Nat.le_trans hB hs) hg
theorem okB_kind {x : Val} (h : x.okB = true) : x.kind = 1 ∨ x.kind = 2 ∨ x.kind = 3 := by
  obtain ⟨k, n, s, l⟩ := x
  rw [Val.okB] at h
  dsimp only [Val.kind]
  split at h
  · exact .inl ‹_›
  · split at h
    · exact .inr (.inl ‹_›)
    · split at h
      · exact .inr (.inr ‹_›)
      · cases h
theorem okB_three {n : Int} {s : Bs} {l : List Val} (h : (Val.mk 3 n s l).okB = true) : n = 0 ∧ s = [] ∧ okL l = true := by
  rw [ok_of_list, Bool.and_eq_true, Bool.and_eq_true, decide_eq_true_eq] at h
  exact ⟨h.1, List.isEmpty_iff.1 h.2.1, h.2.2⟩
theorem okL_at {l : List Val} (h : okL l = true) {x : Val} (hx : x ∈ l) : x.okB = true := by
  rw [okL_all, List.all_eq_true] at h
  exact h x hx

set_option maxRecDepth 100000 in
set_option maxHeartbeats 8000000 in
theorem cW3_step (d : Nat) (ih : ∀ d', d' < d → W3 d') : W3 d := by
  intro m sb l' A c base pb cb v l w hok hfit hV ho hbase hW hpb hcb hlen
  obtain ⟨_, _, _, hm⟩ := hV.form
  unfold maxLen at hm
  have hE : l ++ (Val.mk 3 0 [] l').enc = ((l ++ [3]) ++ numT l'.length) ++ encL l' := by rw [enc_3]; simp only [List.append_assoc]
  have hlen2 : (l ++ [3]).length + (numT l'.length).length + (encL l').length ≤ 80000000 := by
    rw [enc_3] at hlen
    simp only [List.length_append, List.length_singleton] at hlen ⊢
    omega
  rw [hE]
  obtain ⟨T, hT⟩ : ∃ T, ((l ++ [3]) ++ numT l'.length) ++ encL l' = T := ⟨_, rfl⟩
  rw [hT]
  have HT := Lib.hid hT
  have HLEN := Lib.hid hlen2
  have HOK := Lib.hid hok
  have HFIT := Lib.hid hfit
  have HV := Lib.hid hV
  have HW := Lib.hid hW
  have IH := Lib.hid ih
  have HBASE := Lib.hid hbase
  have hst := (Below.refl w.heap.size w).alloc (Nat.le_refl _) (.cells #[.int .i64 3, .int .i64 m, .string sb, .slice A l'.length c] 85)
  have hst2 := (hst.drew).alloc (by simp) (.cells #[.int .u8 3] 5)
  have X := Box.newAt (w := (w.alloc (.cells #[.int .i64 3, .int .i64 m, .string sb, .slice A l'.length c] 85)).drew) (n := w.heap.size + 1) [.int .u8 3] 5 (by simp)
  have hl0 : (l ++ [3]).length ≤ 80000000 := by omega
  obtain ⟨v', w', hr, hO, hg, hL⟩ := app_one 3 (ho.below hst2) X (Nat.le_trans hbase hst2.size) (by simp at hl0; omega)
  have HN := Lib.hid (cNumeral_any l'.length (by omega) base v' (l ++ [3]) w' hO (Nat.le_trans hbase (Nat.le_trans hst2.size hg.size)) (by omega))
  have HG := Lib.hid (grownBy_below hst2 hg)
  have HL := Lib.hid (hL.below hst2)
  have HH := Lib.hid (Nat.le_trans hst2.size hg.size)
  have R : (appF #[43, 43] 43 #[v, .slice (some ⟨w.heap.size + 1, 0, none⟩) 1 1]).run Try.prog ((w.alloc (.cells #[.int .i64 3, .int .i64 m, .string sb, .slice A l'.length c] 85)).alloc (.cells #[.int .u8 3] 5)).drew = .ok v' w' := hr
  have Y := (Box.new w [.int .i64 3, .int .i64 m, .string sb, .slice A l'.length c] 85).drew.alloc (.cells #[.int .u8 3] 5)
  have Y2 := Y.grown hg (fun e => by have := (ho.lt e.symm).2; omega)
  have hne : Hid (some w.heap.size ≠ v'.ownBlock) := by
    rcases hL with h | ⟨g, h, hg2⟩
    · rw [Hid, h]
      exact fun e => by have := (ho.lt e.symm).2; omega
    · rw [Hid, h]
      intro e
      injection e with e
      simp at hg2
      omega
  obtain ⟨n, hn⟩ : ∃ n, l'.length = n := ⟨_, rfl⟩
  have HN2 := Lib.hid hn
  rw [hn] at HV HN R Y2 hm HT HLEN ⊢
  have y1 : w'.cell? ⟨w.heap.size, 3, none⟩ = some (.slice A n c) := Y2.cell 3
  have yz : w.heap.size < w'.heap.size := Y2.lt
  have HO0 := Lib.hid ho
  clear hr hO hg hL hst hst2 X Y Y2 hn hT hlen2 hok hfit hV hW ih hlen hE hl0 ho
  have hwr : IntKind.u64.wrap (n : Int) = (n : Int) := by rw [wrap_u64']; omega
  go_enter Try.func99, Try.ntmps99
  go_wp2_with fail
  go_region_held3 (fun w' => w'.cell? ⟨w.heap.size, 3, none⟩ = some (.slice A n c)) (go_keep) (((go_at_call 96; (with_reducible refine HN.out.mono ?_); rintro e w9 ⟨V, rfl, hOV, hGV, hLV⟩; have y9 := hGV.cell y1 hne.out)))
  have HG9 := Lib.hid (grownBy_trans HG.out HL.out hGV)
  have HL9 := Lib.hid (HL.out.trans HH.out hLV)
  have HO9 := Lib.hid hOV
  have yz9 : w.heap.size < w9.heap.size := Nat.lt_of_lt_of_le yz hGV.size
  clear hOV hGV hLV HG HL HH R HN y1 yz hne hwr
  go_wp2
  clear y9
  go_loopw [0, 19] (fun b i wr => ∃ (k : Nat) (V : Value), k ≤ n ∧ i = .int .i64 k ∧ b = V ∧ Hid (OwnBs wr base V (((l ++ [3]) ++ numT n) ++ encL (l'.take k))) ∧ Hid (w.grownBy wr v.ownBlock) ∧ Hid (Lies w v V)) (fun _ i _ => n - (intOf i).toNat)
  case atStart => exact ⟨0, V, Nat.zero_le _, rfl, rfl, by rw [List.take_zero, encL, List.append_nil]; exact HO9, HG9, HL9⟩
  case round =>
    clear HO9 HG9 HL9 yz9
    obtain ⟨k, V, hk, rfl, hVe, HO, HG, HL⟩ := hrel
    replace hVe := hVe.symm
    subst hVe
    have hBb : Below base w wr := row_below HO0.out (Nat.le_refl _) HBASE.out HG.out
    have hbw := Nat.le_trans HBASE.out HG.out.size
    by_cases hlt : k < n
    · have hlt' : k < l'.length := by rw [HN2.out]; exact hlt
      obtain ⟨d', b, off, U, rfl, rfl, hb, c0, c1, c2, c3, hE⟩ := HV.out.elem hlt'
      have htk := List.take_succ_eq_append_getElem hlt'
      have hxo := okL_at HOK.out (List.getElem_mem hlt')
      have hxf := fits_mem HFIT.out (List.getElem_mem hlt')
      generalize l'[k] = x at c0 c1 c2 c3 hE htk hxo hxf
      have hsp : (encL (l'.take (k + 1))).length ≤ (encL l').length := by
        have e := encL_append (l'.take (k + 1)) (l'.drop (k + 1))
        rw [List.take_append_drop] at e
        rw [e, List.length_append]
        omega
      have hsn : encL (l'.take (k + 1)) = encL (l'.take k) ++ x.enc := by rw [htk, encL_snoc]
      obtain ⟨xk, xn, xs, xl⟩ := x
      obtain ⟨A', c', rfl, _⟩ := hE.form
      dsimp only [Val.kind, Val.num, Val.str, Val.elems] at c0 c1 c2 c3 hE
      replace c0 := (hBb.cell (p := ⟨b, off + k * 4, none⟩) hb).trans c0
      replace c1 := (hBb.cell (p := ⟨b, off + k * 4 + 1, none⟩) hb).trans c1
      replace c2 := (hBb.cell (p := ⟨b, off + k * 4 + 2, none⟩) hb).trans c2
      replace c3 := (hBb.cell (p := ⟨b, off + k * 4 + 3, none⟩) hb).trans c3
      have HWr := HW.out.below hpb hcb hBb
      have HOB : Hid ((((l ++ [3]) ++ numT n) ++ encL (l'.take k)).length + (Val.mk xk xn xs xl).enc.length ≤ 80000000) := by
        have h1 := HLEN.out
        rw [hsn] at hsp
        rw [Hid]
        simp only [List.length_append] at h1 hsp ⊢
        omega
      have HS : Hid (((l ++ [3]) ++ numT n) ++ encL (l'.take (k + 1)) = (((l ++ [3]) ++ numT n) ++ encL (l'.take k)) ++ (Val.mk xk xn xs xl).enc) := by rw [Hid, hsn]; simp only [List.append_assoc]
      have HE := Lib.hid (hE.below hBb)
      have HBB := Lib.hid hBb
      clear hE htk hsp hsn hBb
      generalize ((l ++ [3]) ++ numT n) ++ encL (l'.take k) = P at HO HOB HS
      have hWx := HWr.1.lt
      have hCx := HWr.2.lt
      have HXF := Lib.hid hxf
      clear hxf
      rcases okB_kind hxo with rfl | rfl | rfl
      · have hst := (Below.refl wr.heap.size wr).alloc (Nat.le_refl _) (.cells #[.int .i64 1, .int .i64 xn, .string (strB xs), .slice A' xl.length c'] 85)
        have HC : Hid (∀ z, Below (wr.alloc (.cells #[.int .i64 1, .int .i64 xn, .string (strB xs), .slice A' xl.length c'] 85)).heap.size (wr.alloc (.cells #[.int .i64 1, .int .i64 xn, .string (strB xs), .slice A' xl.length c'] 85)) z → Calls Try.prog 95 #[V, .agg #[.int .i64 1, .int .i64 xn, .string (strB xs), .slice A' xl.length c']] z (RetApp (P ++ (Val.mk 1 xn xs xl).enc) base V z)) := Lib.hid fun z hz => by
          have h := HXF.out.nums
          have hl := HOB.out
          rw [enc_1] at hl ⊢
          rw [List.length_append] at hl
          exact cW1_any xn h.1 h.2 (strB xs) A' _ c' base V P z (HO.out.below (hst.trans (hz.mono hst.size))) (Nat.le_trans hbw (Nat.le_trans hst.size hz.size)) (by omega)
        rw [← HS.out] at HC
        have ST := Lib.hid hst
        have X := Box.new wr [.int .i64 1, .int .i64 xn, .string (strB xs), .slice A' xl.length c'] 85
        have Wp := HWr.1.later hst
        have Wc := HWr.2.later hst
        have HOw := Lib.hid (HO.out.below hst)
        have nX : Hid (some wr.heap.size ≠ V.ownBlock) := fun e => by have := (HO.out.lt e.symm).2; omega
        have nP : Hid (some pb ≠ V.ownBlock) := fun e => by have := (HO.out.lt e.symm).1; omega
        have nC : Hid (some cb ≠ V.ownBlock) := fun e => by have := (HO.out.lt e.symm).1; omega
        clear hst HS HE HOB HXF hxo
        generalize strB xs = xsb, xl.length = xll at c2 c3 HC ST X Wp Wc HOw
        go_wp2_with fail
        clear c0 c1 c2 c3
        generalize wr.alloc (.cells #[.int .i64 1, .int .i64 xn, .string xsb, .slice A' xll c'] 85) = W at HC ST X Wp Wc HOw ⊢
        generalize hbx : wr.heap.size = bx at X nX ⊢
        have hbx' := Lib.hid hbx
        clear hbx
        have x0 : W.cell? ⟨bx, 0, none⟩ = some (.int .i64 1) := X.cell 0
        have x1 : W.cell? ⟨bx, 1, none⟩ = some (.int .i64 xn) := X.cell 1
        have x2 : W.cell? ⟨bx, 2, none⟩ = some (.string xsb) := X.cell 2
        have x3 : W.cell? ⟨bx, 3, none⟩ = some (.slice A' xll c') := X.cell 3
        have p0 : W.cell? ⟨pb, 1, none⟩ = some (.func (.func 95) #[] #[]) := Wp.cell 1
        have q0 : W.cell? ⟨cb, 0, none⟩ = some (.pointer (some ⟨pb, 0, none⟩)) := Wc.cell 0
        go_region_held3 (fun w' => w'.cell? ⟨bx, 0, none⟩ = some (.int .i64 1) ∧ w'.cell? ⟨bx, 1, none⟩ = some (.int .i64 xn) ∧ w'.cell? ⟨bx, 2, none⟩ = some (.string xsb) ∧ w'.cell? ⟨bx, 3, none⟩ = some (.slice A' xll c') ∧ w'.cell? ⟨pb, 1, none⟩ = some (.func (.func 95) #[] #[]) ∧ w'.cell? ⟨cb, 0, none⟩ = some (.pointer (some ⟨pb, 0, none⟩))) (go_keep) (((go_at_call 95; (with_reducible refine (HC.out _ ((Below.refl _ _).drew)).mono ?_); rintro e w9 ⟨V2, rfl, hOV, hGV, hLV⟩; have g0 := (hGV.cell (w := W.drew) x0 nX.out); have g1 := (hGV.cell (w := W.drew) x1 nX.out); have g2 := (hGV.cell (w := W.drew) x2 nX.out); have g3 := (hGV.cell (w := W.drew) x3 nX.out); have g4 := (hGV.cell (w := W.drew) p0 nP.out); have g5 := (hGV.cell (w := W.drew) q0 nC.out))))
        have HG2 : Hid (w.grownBy w9 v.ownBlock) := Lib.hid (grownBy_trans HG.out HL.out (grownBy_below ST.out.drew hGV))
        have HL2 : Hid (Lies w v V2) := Lib.hid (HL.out.trans HG.out.size (Lies.below (w1 := W.drew) ST.out.drew hLV))
        have HO2 := Lib.hid hOV
        clear g0 g1 g2 g3 g4 g5 x0 x1 x2 x3 p0 q0 hOV hGV hLV HC X Wp Wc HOw nX nP nC ST HBB HO HG HL hbx'
        go_wp2
        exact ⟨⟨k + 1, V2, by omega, by go_num, rfl, HO2, HG2, HL2⟩, by simp [intOf]; omega⟩
      · have hst := (Below.refl wr.heap.size wr).alloc (Nat.le_refl _) (.cells #[.int .i64 2, .int .i64 xn, .string (strB xs), .slice A' xl.length c'] 85)
        have HC : Hid (∀ z, Below (wr.alloc (.cells #[.int .i64 2, .int .i64 xn, .string (strB xs), .slice A' xl.length c'] 85)).heap.size (wr.alloc (.cells #[.int .i64 2, .int .i64 xn, .string (strB xs), .slice A' xl.length c'] 85)) z → Calls Try.prog 98 #[V, .agg #[.int .i64 2, .int .i64 xn, .string (strB xs), .slice A' xl.length c']] z (RetApp (P ++ (Val.mk 2 xn xs xl).enc) base V z)) := Lib.hid fun z hz => by
          have h := HXF.out.strs
          have hl := HOB.out
          rw [enc_2] at hl ⊢
          rw [List.length_append, List.length_append] at hl
          unfold maxLen at h
          exact cW2_any xn xs (by simp [Val.str] at h; omega) A' _ c' base V P z (HO.out.below (hst.trans (hz.mono hst.size))) (Nat.le_trans hbw (Nat.le_trans hst.size hz.size)) (by omega)
        rw [← HS.out] at HC
        have ST := Lib.hid hst
        have X := Box.new wr [.int .i64 2, .int .i64 xn, .string (strB xs), .slice A' xl.length c'] 85
        have Wp := HWr.1.later hst
        have Wc := HWr.2.later hst
        have HOw := Lib.hid (HO.out.below hst)
        have nX : Hid (some wr.heap.size ≠ V.ownBlock) := fun e => by have := (HO.out.lt e.symm).2; omega
        have nP : Hid (some pb ≠ V.ownBlock) := fun e => by have := (HO.out.lt e.symm).1; omega
        have nC : Hid (some cb ≠ V.ownBlock) := fun e => by have := (HO.out.lt e.symm).1; omega
        clear hst HS HE HOB HXF hxo
        generalize strB xs = xsb, xl.length = xll at c2 c3 HC ST X Wp Wc HOw
        go_wp2_with fail
        clear c0 c1 c2 c3
        generalize wr.alloc (.cells #[.int .i64 2, .int .i64 xn, .string xsb, .slice A' xll c'] 85) = W at HC ST X Wp Wc HOw ⊢
        generalize hbx : wr.heap.size = bx at X nX ⊢
        have hbx' := Lib.hid hbx
        clear hbx
        have x0 : W.cell? ⟨bx, 0, none⟩ = some (.int .i64 2) := X.cell 0
        have x1 : W.cell? ⟨bx, 1, none⟩ = some (.int .i64 xn) := X.cell 1
        have x2 : W.cell? ⟨bx, 2, none⟩ = some (.string xsb) := X.cell 2
        have x3 : W.cell? ⟨bx, 3, none⟩ = some (.slice A' xll c') := X.cell 3
        have p0 : W.cell? ⟨pb, 2, none⟩ = some (.func (.func 98) #[] #[]) := Wp.cell 2
        have q0 : W.cell? ⟨cb, 0, none⟩ = some (.pointer (some ⟨pb, 0, none⟩)) := Wc.cell 0
        go_region_held3 (fun w' => w'.cell? ⟨bx, 0, none⟩ = some (.int .i64 2) ∧ w'.cell? ⟨bx, 1, none⟩ = some (.int .i64 xn) ∧ w'.cell? ⟨bx, 2, none⟩ = some (.string xsb) ∧ w'.cell? ⟨bx, 3, none⟩ = some (.slice A' xll c') ∧ w'.cell? ⟨pb, 2, none⟩ = some (.func (.func 98) #[] #[]) ∧ w'.cell? ⟨cb, 0, none⟩ = some (.pointer (some ⟨pb, 0, none⟩))) (go_keep) (((go_at_call 98; (with_reducible refine (HC.out _ ((Below.refl _ _).drew)).mono ?_); rintro e w9 ⟨V2, rfl, hOV, hGV, hLV⟩; have g0 := (hGV.cell (w := W.drew) x0 nX.out); have g1 := (hGV.cell (w := W.drew) x1 nX.out); have g2 := (hGV.cell (w := W.drew) x2 nX.out); have g3 := (hGV.cell (w := W.drew) x3 nX.out); have g4 := (hGV.cell (w := W.drew) p0 nP.out); have g5 := (hGV.cell (w := W.drew) q0 nC.out))))
        have HG2 : Hid (w.grownBy w9 v.ownBlock) := Lib.hid (grownBy_trans HG.out HL.out (grownBy_below ST.out.drew hGV))
        have HL2 : Hid (Lies w v V2) := Lib.hid (HL.out.trans HG.out.size (Lies.below (w1 := W.drew) ST.out.drew hLV))
        have HO2 := Lib.hid hOV
        clear g0 g1 g2 g3 g4 g5 x0 x1 x2 x3 p0 q0 hOV hGV hLV HC X Wp Wc HOw nX nP nC ST HBB HO HG HL hbx'
        go_wp2
        exact ⟨⟨k + 1, V2, by omega, by go_num, rfl, HO2, HG2, HL2⟩, by simp [intOf]; omega⟩
      · have hst := (Below.refl wr.heap.size wr).alloc (Nat.le_refl _) (.cells #[.int .i64 3, .int .i64 xn, .string (strB xs), .slice A' xl.length c'] 85)
        have HC : Hid (∀ z, Below (wr.alloc (.cells #[.int .i64 3, .int .i64 xn, .string (strB xs), .slice A' xl.length c'] 85)).heap.size (wr.alloc (.cells #[.int .i64 3, .int .i64 xn, .string (strB xs), .slice A' xl.length c'] 85)) z → Calls Try.prog 99 #[V, .agg #[.int .i64 3, .int .i64 xn, .string (strB xs), .slice A' xl.length c'], .pointer (some ⟨cb, 0, none⟩)] z (RetApp (P ++ (Val.mk 3 xn xs xl).enc) base V z)) := Lib.hid fun z hz => by
          obtain ⟨rfl, rfl, ho3⟩ := okB_three hxo
          have hbz : Below base wr z := (hst.trans (hz.mono hst.size)).mono hbw
          exact IH.out d' (by omega) 0 (strB []) xl A' c' base pb cb V P z ho3 HXF.out.els (HE.out.below hbz) (HO.out.below (hst.trans (hz.mono hst.size))) (Nat.le_trans hbw (Nat.le_trans hst.size hz.size)) (HWr.below hpb hcb hbz) hpb hcb (by have := HOB.out; omega)
        rw [← HS.out] at HC
        have ST := Lib.hid hst
        have X := Box.new wr [.int .i64 3, .int .i64 xn, .string (strB xs), .slice A' xl.length c'] 85
        have Wp := HWr.1.later hst
        have Wc := HWr.2.later hst
        have HOw := Lib.hid (HO.out.below hst)
        have nX : Hid (some wr.heap.size ≠ V.ownBlock) := fun e => by have := (HO.out.lt e.symm).2; omega
        have nP : Hid (some pb ≠ V.ownBlock) := fun e => by have := (HO.out.lt e.symm).1; omega
        have nC : Hid (some cb ≠ V.ownBlock) := fun e => by have := (HO.out.lt e.symm).1; omega
        clear hst HS HE HOB HXF hxo
        generalize strB xs = xsb, xl.length = xll at c2 c3 HC ST X Wp Wc HOw
        go_wp2_with fail
        clear c0 c1 c2 c3
        generalize wr.alloc (.cells #[.int .i64 3, .int .i64 xn, .string xsb, .slice A' xll c'] 85) = W at HC ST X Wp Wc HOw ⊢
        generalize hbx : wr.heap.size = bx at X nX ⊢
        have hbx' := Lib.hid hbx
        clear hbx
        have x0 : W.cell? ⟨bx, 0, none⟩ = some (.int .i64 3) := X.cell 0
        have x1 : W.cell? ⟨bx, 1, none⟩ = some (.int .i64 xn) := X.cell 1
        have x2 : W.cell? ⟨bx, 2, none⟩ = some (.string xsb) := X.cell 2
        have x3 : W.cell? ⟨bx, 3, none⟩ = some (.slice A' xll c') := X.cell 3
        have p0 : W.cell? ⟨pb, 3, none⟩ = some (.func (.func 99) #[] #[.pointer (some ⟨cb, 0, none⟩)]) := Wp.cell 3
        have q0 : W.cell? ⟨cb, 0, none⟩ = some (.pointer (some ⟨pb, 0, none⟩)) := Wc.cell 0
        go_region_held3 (fun w' => w'.cell? ⟨bx, 0, none⟩ = some (.int .i64 3) ∧ w'.cell? ⟨bx, 1, none⟩ = some (.int .i64 xn) ∧ w'.cell? ⟨bx, 2, none⟩ = some (.string xsb) ∧ w'.cell? ⟨bx, 3, none⟩ = some (.slice A' xll c') ∧ w'.cell? ⟨pb, 3, none⟩ = some (.func (.func 99) #[] #[.pointer (some ⟨cb, 0, none⟩)]) ∧ w'.cell? ⟨cb, 0, none⟩ = some (.pointer (some ⟨pb, 0, none⟩))) (go_keep) (((go_at_call 99; (with_reducible refine (HC.out _ ((Below.refl _ _).drew)).mono ?_); rintro e w9 ⟨V2, rfl, hOV, hGV, hLV⟩; have g0 := (hGV.cell (w := W.drew) x0 nX.out); have g1 := (hGV.cell (w := W.drew) x1 nX.out); have g2 := (hGV.cell (w := W.drew) x2 nX.out); have g3 := (hGV.cell (w := W.drew) x3 nX.out); have g4 := (hGV.cell (w := W.drew) p0 nP.out); have g5 := (hGV.cell (w := W.drew) q0 nC.out))))
        have HG2 : Hid (w.grownBy w9 v.ownBlock) := Lib.hid (grownBy_trans HG.out HL.out (grownBy_below ST.out.drew hGV))
        have HL2 : Hid (Lies w v V2) := Lib.hid (HL.out.trans HG.out.size (Lies.below (w1 := W.drew) ST.out.drew hLV))
        have HO2 := Lib.hid hOV
        clear g0 g1 g2 g3 g4 g5 x0 x1 x2 x3 p0 q0 hOV hGV hLV HC X Wp Wc HOw nX nP nC ST HBB HO HG HL hbx'
        go_wp2
        exact ⟨⟨k + 1, V2, by omega, by go_num, rfl, HO2, HG2, HL2⟩, by simp [intOf]; omega⟩
    · obtain rfl : k = n := by omega
      have hfull : l'.take k = l' := List.take_of_length_le (by rw [HN2.out]; exact Nat.le_refl _)
      rw [hfull, HT.out] at HO
      have HR : Hid (RetApp T base v w (.returned V) wr) := ⟨V, rfl, HO.out, HG.out, HL.out⟩
      clear hfull HO HG HL
      go_wp2
      go_ret
      exact HR.out

theorem W3.all (d : Nat) : W3 d := by
  induction d using Nat.strongRecOn with
  | _ d ih => exact cW3_step d ih

end Go.Proofs.Ytmbifmmkccghfaa
