/- Contracts of formed and Check of codec. No condition. -/
import Derived.Test.YtmbifmmkccghfaaQ2K
import Derived.Lib.MinMax
set_option linter.unusedVariables false
set_option linter.unusedSimpArgs false
namespace Go.Proofs.Ytmbifmmkccghfaa
open Go.RowKit

def formT (x : Val) : Int × Bool := if x.okB = true then ((x.depth : Int), true) else (0, false)

theorem isEmpty_iff {s : List UInt8} : s.isEmpty = decide (s = []) := by cases s <;> rfl
theorem len_isEmpty {l : List Val} : l.isEmpty = decide (l.length = 0) := by cases l <;> rfl

set_option maxRecDepth 100000 in
set_option maxHeartbeats 2000000 in
theorem cFormed_other (k n : Int) (s : List UInt8) (A : Option Addr) (m c : Nat) (w : World) (h : k < 1 ∨ 3 < k) :
    Calls Try.prog 94 #[.agg #[.int .i64 k, .int .i64 n, .string (strB s), .slice A m c]] w fun e w' => e = .returned (.tuple #[.int .i64 0, .bool false]) ∧ Below w.heap.size w w' := by
  have hs := strB_toList s
  generalize strB s = b at *
  rcases h with h | h
  all_goals
    go_enter Try.func94, Try.ntmps94
    go_wp2
    all_goals first
      | omega
      | (go_ret2
         exact ⟨rfl, ((Below.refl _ _).alloc (Nat.le_refl _) _).alloc (by simp) _⟩)

set_option maxRecDepth 100000 in
set_option maxHeartbeats 2000000 in
theorem cFormed_1 (n : Int) (s : List UInt8) (A : Option Addr) (m c : Nat) (w : World) (hm : m ≤ 9223372036854775807) :
    Calls Try.prog 94 #[.agg #[.int .i64 1, .int .i64 n, .string (strB s), .slice A m c]] w fun e w' => e = .returned (.tuple #[.int .i64 0, .bool (decide (s = []) && decide (m = 0))]) ∧ Below w.heap.size w w' := by
  have hs := strB_toList s
  generalize strB s = b at *
  subst hs
  by_cases h1 : b.toList = []
  · by_cases h2 : m = 0
    · subst h2
      rw [h1]
      go_enter Try.func94, Try.ntmps94
      go_wp2
      all_goals
        go_ret2
        exact ⟨by simp, ((Below.refl _ _).alloc (Nat.le_refl _) _).alloc (by simp) _⟩
    · have e : (decide (b.toList = []) && decide (m = 0)) = false := by simp [h2]
      rw [e]
      have h3 : ((m : Int) == 0) = false := by simp; omega
      go_enter Try.func94, Try.ntmps94
      go_wp2
      all_goals
        go_ret2
        exact ⟨by simp, ((Below.refl _ _).alloc (Nat.le_refl _) _).alloc (by simp) _⟩
  · have e : (decide (b.toList = []) && decide (m = 0)) = false := by simp [h1]
    rw [e]
    clear e
    go_enter Try.func94, Try.ntmps94
    go_wp2
    all_goals
      go_ret2
      exact ⟨by simp, ((Below.refl _ _).alloc (Nat.le_refl _) _).alloc (by simp) _⟩

set_option maxRecDepth 100000 in
set_option maxHeartbeats 2000000 in
theorem cFormed_2 (n : Int) (s : List UInt8) (A : Option Addr) (m c : Nat) (w : World) (hm : m ≤ 9223372036854775807) :
    Calls Try.prog 94 #[.agg #[.int .i64 2, .int .i64 n, .string (strB s), .slice A m c]] w fun e w' => e = .returned (.tuple #[.int .i64 0, .bool (decide (n = 0) && decide (m = 0))]) ∧ Below w.heap.size w w' := by
  generalize strB s = b at *
  by_cases h1 : n = 0
  · subst h1
    by_cases h2 : m = 0
    · subst h2
      go_enter Try.func94, Try.ntmps94
      go_wp2
      all_goals
        go_ret2
        exact ⟨by simp, ((Below.refl _ _).alloc (Nat.le_refl _) _).alloc (by simp) _⟩
    · have e : (decide ((0 : Int) = 0) && decide (m = 0)) = false := by simp [h2]
      rw [e]
      have h3 : ((m : Int) == 0) = false := by simp; omega
      go_enter Try.func94, Try.ntmps94
      go_wp2
      all_goals
        go_ret2
        exact ⟨by simp, ((Below.refl _ _).alloc (Nat.le_refl _) _).alloc (by simp) _⟩
  · have e : (decide (n = 0) && decide (m = 0)) = false := by simp [h1]
    rw [e]
    clear e
    go_enter Try.func94, Try.ntmps94
    go_wp2
    all_goals
      go_ret2
      exact ⟨by simp, ((Below.refl _ _).alloc (Nat.le_refl _) _).alloc (by simp) _⟩

set_option maxRecDepth 100000 in
set_option maxHeartbeats 2000000 in
theorem cFormed_3no (n : Int) (s : List UInt8) (A : Option Addr) (m c : Nat) (w : World) (h : Hid (n ≠ 0 ∨ s ≠ [])) :
    Calls Try.prog 94 #[.agg #[.int .i64 3, .int .i64 n, .string (strB s), .slice A m c]] w fun e w' => e = .returned (.tuple #[.int .i64 0, .bool false]) ∧ Below w.heap.size w w' := by
  have hs := strB_toList s
  generalize strB s = b at *
  subst hs
  by_cases h1 : n = 0
  · have h2 : b.toList.isEmpty = false := by
      rcases h.out with h | h
      · exact absurd h1 h
      · cases hb : b.toList with
        | nil => exact absurd hb h
        | cons => rfl
    subst h1
    clear h
    go_enter Try.func94, Try.ntmps94
    go_wp2
    all_goals
      go_ret2
      exact ⟨rfl, ((Below.refl _ _).alloc (Nat.le_refl _) _).alloc (by simp) _⟩
  · clear h
    go_enter Try.func94, Try.ntmps94
    go_wp2
    all_goals
      go_ret2
      exact ⟨rfl, ((Below.refl _ _).alloc (Nat.le_refl _) _).alloc (by simp) _⟩


end Go.Proofs.Ytmbifmmkccghfaa

/-
  Contract of formed on lists, and on all values. No condition.
-/
namespace Go.Proofs.Ytmbifmmkccghfaa
open Go.RowKit

def FormedAll (d : Nat) : Prop := ∀ (x : Val) (L : Value) (w : World), ValsAt w w.heap.size d L x.elems →
    Calls Try.prog 94 #[x.v L] w fun e w' => e = .returned (.tuple #[.int .i64 (formT x).1, .bool (formT x).2]) ∧ Below w.heap.size w w'
theorem form_ok {x : Val} (h : x.okB = true) : formT x = ((x.depth : Int), true) := if_pos h
theorem form_no {x : Val} (h : x.okB = false) : formT x = (0, false) := if_neg (by rw [h]; decide)
theorem form_leaf {x : Val} (h : x.depth = 0) : formT x = (0, x.okB) := by
  rcases hb : x.okB with _ | _
  · exact form_no hb
  · rw [form_ok hb, h]; rfl
set_option maxRecDepth 100000 in
set_option maxHeartbeats 4000000 in
theorem cFormed_3 (d : Nat) (hd : d ≤ 1000) (ih : ∀ d', d' < d → FormedAll d') (l : List Val) (A : Option Addr) (c : Nat) (w : World) (hV : ValsAt w w.heap.size d (.slice A l.length c) l) (rd : Int) (rb : Bool) (hr : Hid (formT (.mk 3 0 [] l) = (rd, rb))) :
    Calls Try.prog 94 #[.agg #[.int .i64 3, .int .i64 0, .string (strB []), .slice A l.length c]] w fun e w' => e = .returned (.tuple #[.int .i64 rd, .bool rb]) ∧ Below w.heap.size w w' := by
  obtain ⟨_, _, _, hm⟩ := hV.form
  unfold maxLen at hm
  have hs : (strB []).toList.isEmpty = true := by rw [strB_toList]; rfl
  obtain ⟨n, hn⟩ : ∃ n, l.length = n := ⟨_, rfl⟩
  rw [hn] at hm hV ⊢
  have HN := Lib.hid hn
  have HV := Lib.hid hV
  have IH := Lib.hid ih
  obtain ⟨z, hz⟩ : ∃ z, strB [] = z := ⟨_, rfl⟩
  rw [hz] at hs ⊢
  clear hn hV ih hz
  go_enter Try.func94, Try.ntmps94
  go_wp2
  go_loopw [2, 57] (fun dep i wr => ∃ k : Nat, k ≤ n ∧ i = .int .i64 k ∧ dep = .int .i64 (depthL (l.take k)) ∧ Hid (okL (l.take k) = true) ∧ Below w.heap.size w wr) (fun _ i _ => n - (intOf i).toNat)
  case atStart => exact ⟨0, Nat.zero_le _, rfl, by simp [depthL], Lib.hid rfl, ((Below.refl _ _).alloc (Nat.le_refl _) _).alloc (by simp) _⟩
  case round =>
    obtain ⟨k, hk, rfl, rfl, hok, hB⟩ := hrel
    by_cases hlt : k < n
    · have hlt' : k < l.length := by rw [HN.out]; exact hlt
      obtain ⟨d', b, off, V, rfl, rfl, hb, c0, c1, c2, c3, hE⟩ := HV.out.elem hlt'
      have htk := List.take_succ_eq_append_getElem hlt'
      have hnest := HV.out.depths k
      have hnx := hE.nest
      generalize l[k] = x at c0 c1 c2 c3 hE htk hnx
      obtain ⟨xk, xn, xs, xl⟩ := x
      obtain ⟨A', c', rfl, _⟩ := hE.form
      dsimp only [Val.kind, Val.num, Val.str, Val.elems] at c0 c1 c2 c3 hE
      have c0 := (hB.cell (p := ⟨b, off + k * 4, none⟩) hb).trans c0
      have c1 := (hB.cell (p := ⟨b, off + k * 4 + 1, none⟩) hb).trans c1
      have c2 := (hB.cell (p := ⟨b, off + k * 4 + 2, none⟩) hb).trans c2
      have c3 := (hB.cell (p := ⟨b, off + k * 4 + 3, none⟩) hb).trans c3
      have HE := Lib.hid ((hE.below hB).more hB.size)
      have HT := Lib.hid htk
      clear hE htk
      rcases hob : (Val.mk xk xn xs xl).okB with _ | _
      · have hno := form_no hob
        have hf : formT (.mk 3 0 [] l) = (0, false) := form_no (by
          have : okL (l.take (k + 1)) = false := by rw [HT.out, okL_snoc, hob, Bool.and_false]
          rw [Val.okB, if_neg (by decide), if_neg (by decide), if_pos rfl, okL_take this]
          simp)
        have HC := Lib.hid hno
        have HF := Lib.hid (hr.out.symm.trans hf)
        clear hob hno hf
        go_wp2_with fail
        refine (IH.out d' (by omega) (.mk xk xn xs xl) _ _ ((HE.out.below ((Below.refl _ _).alloc (Nat.le_refl _) _)).more (by simp))).mono ?_
        rw [HC.out]
        rintro e w1 ⟨rfl, hb1⟩
        have hB' := hB.trans ((((Below.refl wr.heap.size wr).alloc (Nat.le_refl _) _).trans (hb1.mono (by simp))).mono hB.size)
        clear hb1 hB
        go_wp2
        obtain ⟨h1, h2⟩ := Prod.mk.inj HF.out
        go_ret2
        exact ⟨by rw [h1, h2]; rfl, hB'⟩
      · have hyes := form_ok hob
        have hoe := hok.out
        obtain ⟨xd, hxd⟩ : ∃ xd, (Val.mk xk xn xs xl).depth = xd := ⟨_, rfl⟩
        have hxl : xd ≤ d' + 1 := by
          rw [← hxd]
          have := (Val.mk xk xn xs xl).depth_nest
          rw [Val.nest] at this
          simp only [Val.elems] at hnx
          omega
        rw [hxd] at hyes
        have HK := Lib.hid (show okL (l.take (k + 1)) = true by rw [HT.out, okL_snoc, hob, hoe]; rfl)
        have HD := Lib.hid (show depthL (l.take (k + 1)) = max (depthL (l.take k)) xd by rw [HT.out, depthL_snoc, hxd])
        have HC := Lib.hid hyes
        clear hob hyes hoe hxd hok
        generalize depthL (l.take k) = dl at hnest HD
        go_wp2_with fail
        refine (IH.out d' (by omega) (.mk xk xn xs xl) _ _ ((HE.out.below ((Below.refl _ _).alloc (Nat.le_refl _) _)).more (by simp))).mono ?_
        rw [HC.out]
        rintro e w1 ⟨rfl, hb1⟩
        have hB' := hB.trans ((((Below.refl wr.heap.size wr).alloc (Nat.le_refl _) _).trans (hb1.mono (by simp))).mono hB.size)
        clear hb1 hB
        go_wp2
        all_goals
          refine ⟨⟨k + 1, by omega, by go_num, ?_, HK, hB'⟩, by simp [intOf]; omega⟩
          rw [HD.out]
          first
            | rfl
            | (congr 1; omega)
    · obtain rfl : k = n := by omega
      have hfull : l.take k = l := List.take_of_length_le (by rw [HN.out]; exact Nat.le_refl _)
      have hdep := HV.out.depths k
      have hoe := hok.out
      rw [hfull] at hoe hdep ⊢
      have hf : formT (.mk 3 0 [] l) = (((depthL l + 1 : Nat) : Int), true) := by
        have h1 : (Val.mk 3 0 [] l).okB = true := by rw [Val.okB, if_neg (by decide), if_neg (by decide), if_pos rfl, hoe]; rfl
        rw [form_ok h1, Val.depth, if_pos rfl]
      have e : ((depthL l + 1 : Nat) : Int) = (depthL l : Int) + 1 := by omega
      rw [e] at hf
      have HF := Lib.hid (hr.out.symm.trans hf)
      clear hok hfull hoe hf e
      generalize depthL l = dl at hdep HF ⊢
      go_wp2
      obtain ⟨h1, h2⟩ := Prod.mk.inj HF.out
      go_ret2
      exact ⟨by rw [h1, h2]; rfl, hB⟩

theorem FormedAll.all (d : Nat) (hd : d ≤ 1000) : FormedAll d := by
  induction d using Nat.strongRecOn with
  | _ d ih =>
    intro x L w hV
    obtain ⟨k, n, s, l⟩ := x
    obtain ⟨A, c, rfl, hm⟩ := hV.form
    dsimp only [Val.elems] at hV hm
    dsimp only [Val.v, Val.kind, Val.num, Val.str]
    unfold maxLen at hm
    have hi : s.isEmpty = decide (s = []) := isEmpty_iff
    have hj : l.isEmpty = decide (l.length = 0) := len_isEmpty
    by_cases h1 : k = 1
    · subst h1
      have e : formT (.mk 1 n s l) = (0, (decide (s = []) && decide (l.length = 0))) := by
        have : (Val.mk 1 n s l).okB = (decide (s = []) && decide (l.length = 0)) := by rw [Val.okB, if_pos rfl, hi, hj]
        rw [form_leaf rfl, this]
      rw [e]
      exact cFormed_1 n s A _ c w (by simp [Val.elems] at hm ⊢; omega)
    by_cases h2 : k = 2
    · subst h2
      have e : formT (.mk 2 n s l) = (0, (decide (n = 0) && decide (l.length = 0))) := by
        have : (Val.mk 2 n s l).okB = (decide (n = 0) && decide (l.length = 0)) := by rw [Val.okB, if_neg (by decide), if_pos rfl, hj]
        rw [form_leaf rfl, this]
      rw [e]
      exact cFormed_2 n s A _ c w (by simp [Val.elems] at hm ⊢; omega)
    by_cases h3 : k = 3
    · subst h3
      by_cases h4 : n = 0 ∧ s = []
      · obtain ⟨rfl, rfl⟩ := h4
        exact cFormed_3 d hd (fun d' hd' => ih d' hd' (by omega)) l A c w hV _ _ (Lib.hid rfl)
      · have e : formT (.mk 3 n s l) = (0, false) := form_no (by
          rw [Val.okB, if_neg (by decide), if_neg (by decide), if_pos rfl, hi]
          by_cases h5 : n = 0
          · rw [decide_eq_false (p := s = []) (fun h6 => h4 ⟨h5, h6⟩)]; simp
          · rw [decide_eq_false h5]; rfl)
        rw [e]
        exact cFormed_3no n s A _ c w (by
          by_cases h5 : n = 0
          · exact Lib.hid (.inr fun h6 => h4 ⟨h5, h6⟩)
          · exact Lib.hid (.inl h5))
    · have e : formT (.mk k n s l) = (0, false) := form_no (by rw [Val.okB, if_neg h1, if_neg h2, if_neg h3])
      rw [e]
      exact cFormed_other k n s A _ c w (by omega)

end Go.Proofs.Ytmbifmmkccghfaa

/-
  Contracts of Check of codec, and of Formed of the reference. No condition.
-/
namespace Go.Proofs.Ytmbifmmkccghfaa
open Go.RowKit

def chkT (x : Val) : Int := if x.okB = true then (if 16 < x.depth then 2 else 0) else 1
theorem chk_no {x : Val} (h : x.okB = false) : chkT x = 1 := if_neg (by rw [h]; decide)
theorem chk_deep {x : Val} (h : x.okB = true) (h2 : 16 < x.depth) : chkT x = 2 := by rw [chkT, if_pos h, if_pos h2]
theorem chk_ok {x : Val} (h : x.okB = true) (h2 : ¬ 16 < x.depth) : chkT x = 0 := by rw [chkT, if_pos h, if_neg h2]
theorem ValsAt.depth {w : World} {B d : Nat} {L : Value} {x : Val} (h : ValsAt w B d L x.elems) : x.depth ≤ d + 1 := by
  have h1 := h.nest
  have h2 := x.depth_nest
  rw [x.nest_elems] at h2
  omega

set_option maxHeartbeats 1000000 in
theorem cCheck_any (d : Nat) (hd : d ≤ 1000) (x : Val) (L : Value) (w : World) (hV : ValsAt w w.heap.size d L x.elems) :
    Calls Try.prog 79 #[x.v L] w fun e w' => e = .returned (.int .i64 (chkT x)) ∧ Below w.heap.size w w' := by
  obtain ⟨A, c, rfl, hm⟩ := hV.form
  have hst := (Below.refl w.heap.size w).alloc (Nat.le_refl _) (.cells #[.int .i64 x.kind, .int .i64 x.num, .string (strB x.str), .slice A x.elems.length c] 85)
  have HF := Lib.hid (FormedAll.all d hd x _ _ (hV.later hst))
  have hdep := hV.depth
  have hst := Lib.hid hst
  clear hV
  dsimp only [Val.v] at HF hst ⊢
  rcases hob : x.okB with _ | _
  · rw [form_no hob] at HF
    rw [chk_no hob]
    clear hob hdep
    generalize x.kind = k, x.num = n, strB x.str = s, x.elems.length = m at HF hst ⊢
    go_enter Try.func79, Try.ntmps79
    go_wp2_with fail
    refine HF.out.mono ?_
    rintro e w1 ⟨rfl, hb⟩
    go_wp2
    go_ret
    exact ⟨rfl, hst.out.trans (hb.mono (by simp))⟩
  · rw [form_ok hob] at HF
    by_cases h16 : 16 < x.depth
    · rw [chk_deep hob h16]
      clear hob
      generalize x.kind = k, x.num = n, strB x.str = s, x.elems.length = m, x.depth = dp at HF hst h16 hdep ⊢
      go_enter Try.func79, Try.ntmps79
      go_wp2_with fail
      refine HF.out.mono ?_
      rintro e w1 ⟨rfl, hb⟩
      go_wp2
      go_ret
      exact ⟨rfl, hst.out.trans (hb.mono (by simp))⟩
    · rw [chk_ok hob h16]
      clear hob
      generalize x.kind = k, x.num = n, strB x.str = s, x.elems.length = m, x.depth = dp at HF hst h16 hdep ⊢
      go_enter Try.func79, Try.ntmps79
      go_wp2_with fail
      refine HF.out.mono ?_
      rintro e w1 ⟨rfl, hb⟩
      go_wp2
      go_ret
      exact ⟨rfl, hst.out.trans (hb.mono (by simp))⟩

set_option maxRecDepth 100000 in
set_option maxHeartbeats 2000000 in
theorem rFormed_other (k n : Int) (s : List UInt8) (A : Option Addr) (m c : Nat) (w : World) (h1 : ¬ k = 1) (h2 : ¬ k = 2) (h3 : ¬ k = 3) :
    Calls Try.prog 88 #[.agg #[.int .i64 k, .int .i64 n, .string (strB s), .slice A m c]] w fun e w' => e = .returned (.bool false) ∧ Below w.heap.size w w' := by
  generalize strB s = b at *
  go_enter Try.func88, Try.ntmps88
  go_wp2
  all_goals
    go_ret
    exact ⟨rfl, (Below.refl _ _).alloc (Nat.le_refl _) _⟩

set_option maxRecDepth 100000 in
set_option maxHeartbeats 2000000 in
theorem rFormed_1 (n : Int) (s : List UInt8) (A : Option Addr) (m c : Nat) (w : World) (hm : m ≤ 9223372036854775807) :
    Calls Try.prog 88 #[.agg #[.int .i64 1, .int .i64 n, .string (strB s), .slice A m c]] w fun e w' => e = .returned (.bool (s.isEmpty && decide (m = 0))) ∧ Below w.heap.size w w' := by
  have hs := strB_toList s
  generalize strB s = b at *
  subst hs
  rcases he : b.toList.isEmpty with _ | _
  · rw [Bool.false_and]
    go_enter Try.func88, Try.ntmps88
    go_wp2
    all_goals
      go_ret
      exact ⟨rfl, (Below.refl _ _).alloc (Nat.le_refl _) _⟩
  · rw [Bool.true_and]
    by_cases h : m = 0
    · subst h
      go_enter Try.func88, Try.ntmps88
      go_wp2
      all_goals
        go_ret
        exact ⟨rfl, (Below.refl _ _).alloc (Nat.le_refl _) _⟩
    · rw [decide_eq_false h]
      have h3 : ((m : Int) == 0) = false := by simp; omega
      go_enter Try.func88, Try.ntmps88
      go_wp2
      all_goals
        go_ret
        exact ⟨rfl, (Below.refl _ _).alloc (Nat.le_refl _) _⟩

set_option maxRecDepth 100000 in
set_option maxHeartbeats 2000000 in
theorem rFormed_2 (n : Int) (s : List UInt8) (A : Option Addr) (m c : Nat) (w : World) (hm : m ≤ 9223372036854775807) :
    Calls Try.prog 88 #[.agg #[.int .i64 2, .int .i64 n, .string (strB s), .slice A m c]] w fun e w' => e = .returned (.bool (decide (n = 0) && decide (m = 0))) ∧ Below w.heap.size w w' := by
  generalize strB s = b at *
  by_cases h1 : n = 0
  · subst h1
    rw [decide_eq_true rfl, Bool.true_and]
    by_cases h : m = 0
    · subst h
      go_enter Try.func88, Try.ntmps88
      go_wp2
      all_goals
        go_ret
        exact ⟨rfl, (Below.refl _ _).alloc (Nat.le_refl _) _⟩
    · rw [decide_eq_false h]
      have h3 : ((m : Int) == 0) = false := by simp; omega
      go_enter Try.func88, Try.ntmps88
      go_wp2
      all_goals
        go_ret
        exact ⟨rfl, (Below.refl _ _).alloc (Nat.le_refl _) _⟩
  · rw [decide_eq_false h1, Bool.false_and]
    go_enter Try.func88, Try.ntmps88
    go_wp2
    all_goals
      go_ret
      exact ⟨rfl, (Below.refl _ _).alloc (Nat.le_refl _) _⟩

def FormedR (d : Nat) : Prop := ∀ (x : Val) (L : Value) (w : World), ValsAt w w.heap.size d L x.elems →
    Calls Try.prog 88 #[x.v L] w fun e w' => e = .returned (.bool x.okB) ∧ Below w.heap.size w w'
theorem ok_of_list {n : Int} {s : List UInt8} {l : List Val} : (Val.mk 3 n s l).okB = (decide (n = 0) && (s.isEmpty && okL l)) := by rw [Val.okB, if_neg (by decide), if_neg (by decide), if_pos rfl]

set_option maxRecDepth 100000 in
set_option maxHeartbeats 4000000 in
theorem rFormed_3 (d : Nat) (ih : ∀ d', d' < d → FormedR d') (m : Int) (s : List UInt8) (l : List Val) (A : Option Addr) (c : Nat) (w : World) (hV : ValsAt w w.heap.size d (.slice A l.length c) l) (rb : Bool) (hr : Hid ((Val.mk 3 m s l).okB = rb)) :
    Calls Try.prog 88 #[.agg #[.int .i64 3, .int .i64 m, .string (strB s), .slice A l.length c]] w fun e w' => e = .returned (.bool rb) ∧ Below w.heap.size w w' := by
  obtain ⟨_, _, _, hm⟩ := hV.form
  unfold maxLen at hm
  obtain ⟨n, hn⟩ : ∃ n, l.length = n := ⟨_, rfl⟩
  rw [hn] at hm hV ⊢
  have HN := Lib.hid hn
  have HV := Lib.hid hV
  have IH := Lib.hid ih
  have hs : Hid ((strB s).toList = s) := strB_toList s
  generalize strB s = z at hs ⊢
  have hB := (Below.refl w.heap.size w).alloc (Nat.le_refl _) (.cells #[.int .i64 3, .int .i64 m, .string z, .slice A n c] 85)
  have X := Box.new w [.int .i64 3, .int .i64 m, .string z, .slice A n c] 85
  clear hn hV ih
  go_enter Try.func88, Try.ntmps88
  go_wp2
  go_loopw [3] (fun i wr => ∃ k : Nat, k ≤ n ∧ i = .int .i64 k ∧ Hid (okL (l.take k) = true) ∧ Below w.heap.size w wr ∧ Box wr w.heap.size [.int .i64 3, .int .i64 m, .string z, .slice A n c]) (fun i _ => n - (intOf i).toNat)
  case atStart => exact ⟨0, Nat.zero_le _, rfl, Lib.hid rfl, hB, X⟩
  case round =>
    clear hB X
    obtain ⟨k, hk, rfl, hok, hB, X⟩ := hrel
    have x0 : wr.cell? ⟨w.heap.size, 0, none⟩ = some (.int .i64 3) := X.cell 0
    have x1 : wr.cell? ⟨w.heap.size, 1, none⟩ = some (.int .i64 m) := X.cell 1
    have x2 : wr.cell? ⟨w.heap.size, 2, none⟩ = some (.string z) := X.cell 2
    have x3 : wr.cell? ⟨w.heap.size, 3, none⟩ = some (.slice A n c) := X.cell 3
    have xz := X.lt
    by_cases hlt : k < n
    · have hlt' : k < l.length := by rw [HN.out]; exact hlt
      obtain ⟨d', b, off, V, rfl, rfl, hb, c0, c1, c2, c3, hE⟩ := HV.out.elem hlt'
      have htk := List.take_succ_eq_append_getElem hlt'
      generalize l[k] = x at c0 c1 c2 c3 hE htk
      obtain ⟨xk, xn, xs, xl⟩ := x
      obtain ⟨A', c', rfl, _⟩ := hE.form
      dsimp only [Val.kind, Val.num, Val.str, Val.elems] at c0 c1 c2 c3 hE
      replace c0 := (hB.cell (p := ⟨b, off + k * 4, none⟩) hb).trans c0
      replace c1 := (hB.cell (p := ⟨b, off + k * 4 + 1, none⟩) hb).trans c1
      replace c2 := (hB.cell (p := ⟨b, off + k * 4 + 2, none⟩) hb).trans c2
      replace c3 := (hB.cell (p := ⟨b, off + k * 4 + 3, none⟩) hb).trans c3
      have HE := Lib.hid ((hE.below hB).more hB.size)
      have HT := Lib.hid htk
      clear hE htk
      obtain ⟨q, hob⟩ : ∃ q, (Val.mk xk xn xs xl).okB = q := ⟨_, rfl⟩
      have HC := Lib.hid hob
      clear hob
      go_wp2_with fail
      refine (IH.out d' (by omega) (.mk xk xn xs xl) _ _ HE.out).mono ?_
      rw [HC.out]
      rintro e w1 ⟨rfl, hb1⟩
      have hB' := hB.trans (hb1.mono hB.size)
      have X' := X.later hb1
      clear hb1 hB X x0 x1 x2 x3
      cases q
      · have hf : rb = false := by
          rw [← hr.out, ok_of_list, okL_take (k := k + 1) (by rw [HT.out, okL_snoc, HC.out, Bool.and_false])]
          simp
        have HF := Lib.hid hf
        clear hf
        go_wp2
        go_ret
        exact ⟨by rw [HF.out]; rfl, hB'⟩
      · have HK := Lib.hid (show okL (l.take (k + 1)) = true by rw [HT.out, okL_snoc, HC.out, hok.out]; rfl)
        go_wp2
        exact ⟨⟨k + 1, by omega, by go_num, HK, hB', X'⟩, by simp [intOf]; omega⟩
    · obtain rfl : k = n := by omega
      have hfull : l.take k = l := List.take_of_length_le (by rw [HN.out]; exact Nat.le_refl _)
      have hoe := hok.out
      rw [hfull] at hoe
      have hf : rb = (decide (m = 0) && z.toList.isEmpty) := by rw [← hr.out, ok_of_list, hoe, hs.out, Bool.and_true]
      have HF := Lib.hid hf
      clear hok hfull hoe hf
      by_cases h1 : m = 0
      · subst h1
        rcases he : z.toList.isEmpty with _ | _
        all_goals
          have HF2 := Lib.hid (HF.out.trans (by rw [he] : _ = (decide ((0 : Int) = 0) && _)))
          go_wp2
          go_ret
          exact ⟨by rw [HF2.out]; rfl, hB⟩
      · have HF2 := Lib.hid (HF.out.trans (by rw [decide_eq_false h1]; rfl : _ = false))
        go_wp2
        go_ret
        exact ⟨by rw [HF2.out]; rfl, hB⟩

theorem FormedR.all (d : Nat) : FormedR d := by
  induction d using Nat.strongRecOn with
  | _ d ih =>
    intro x L w hV
    obtain ⟨k, n, s, l⟩ := x
    obtain ⟨A, c, rfl, hm⟩ := hV.form
    dsimp only [Val.elems] at hV hm
    dsimp only [Val.v, Val.kind, Val.num, Val.str]
    unfold maxLen at hm
    have hj : l.isEmpty = decide (l.length = 0) := len_isEmpty
    by_cases h1 : k = 1
    · subst h1
      rw [Val.okB, if_pos rfl, hj]
      exact rFormed_1 n s A _ c w (by simp [Val.elems] at hm ⊢; omega)
    by_cases h2 : k = 2
    · subst h2
      rw [Val.okB, if_neg (by decide), if_pos rfl, hj]
      exact rFormed_2 n s A _ c w (by simp [Val.elems] at hm ⊢; omega)
    by_cases h3 : k = 3
    · subst h3
      exact rFormed_3 d ih n s l A c w hV _ (Lib.hid rfl)
    · rw [Val.okB, if_neg h1, if_neg h2, if_neg h3]
      exact rFormed_other k n s A _ c w h1 h2 h3

end Go.Proofs.Ytmbifmmkccghfaa
