/-
  Contract of formed on lists, and on all values. No condition.
-/
import Derived.Test.YtcokkloaljaanaaCB
import Derived.Lib.MinMax
namespace Go.Proofs.Ytcokkloaljaanaa
open Go.RowKit

/-- formed answers as it should, at all values nested at most d deep. -/
def FormedAll (d : Nat) : Prop := ∀ (x : Val) (L : Value) (w : World), ValsAt w w.heap.size d L x.elems →
    Calls Try.prog 28 #[x.v L] w fun e w' => e = .returned (.tuple #[.int .i64 (formT x).1, .bool (formT x).2]) ∧ Below w.heap.size w w'
theorem form_ok {x : Val} (h : x.okB = true) : formT x = ((x.depth : Int), true) := if_pos h
theorem form_no {x : Val} (h : x.okB = false) : formT x = (0, false) := if_neg (by rw [h]; decide)
theorem form_leaf {x : Val} (h : x.depth = 0) : formT x = (0, x.okB) := by
  rcases hb : x.okB with _ | _
  · exact form_no hb
  · rw [form_ok hb, h]; rfl
theorem max_of {a b : Nat} {m : Int} (h : m = max (a : Int) (b : Int)) : m = ((max a b : Nat) : Int) := by rw [h]; omega

set_option maxRecDepth 100000 in
set_option maxHeartbeats 4000000 in
theorem cFormed_3 (d : Nat) (hd : d ≤ 1000) (ih : ∀ d', d' < d → FormedAll d') (l : List Val) (A : Option Addr) (c : Nat) (w : World) (hV : ValsAt w w.heap.size d (.slice A l.length c) l) (rd : Int) (rb : Bool) (hr : Hid (formT (.mk 3 0 [] l) = (rd, rb))) :
    Calls Try.prog 28 #[.agg #[.int .i64 3, .int .i64 0, .string (strB []), .slice A l.length c]] w fun e w' => e = .returned (.tuple #[.int .i64 rd, .bool rb]) ∧ Below w.heap.size w w' := by
  obtain ⟨_, _, _, hm⟩ := hV.form
  unfold maxLen at hm
  have hs : (strB []).toList.isEmpty = true := by rw [strB_toList]; rfl
  obtain ⟨n, hn⟩ : ∃ n, l.length = n := ⟨_, rfl⟩
  rw [hn] at hm hV ⊢
  have HN := Lib.hid hn
  have HV := Lib.hid hV
  have IH := Lib.hid ih
  obtain ⟨z, hz⟩ : ∃ z, strB [] = z := ⟨_, rfl⟩
  rw [hz] at hs ⊢
  clear hn hV ih hz
  go_enter Try.func28, Try.ntmps28
  go_wp2
  go_loopw [2, 57] (fun dep i wr => ∃ k : Nat, k ≤ n ∧ i = .int .i64 k ∧ dep = .int .i64 (depthL (l.take k)) ∧ Hid (okL (l.take k) = true) ∧ Below w.heap.size w wr) (fun _ i _ => n - (intOf i).toNat)
  case atStart => exact ⟨0, Nat.zero_le _, rfl, by simp [depthL], Lib.hid rfl, ((Below.refl _ _).alloc (Nat.le_refl _) _).alloc (by simp) _⟩
  case round =>
    obtain ⟨k, hk, rfl, rfl, hok, hB⟩ := hrel
    by_cases hlt : k < n
    · have hlt' : k < l.length := by rw [HN.out]; exact hlt
      obtain ⟨d', b, off, V, rfl, rfl, hb, c0, c1, c2, c3, hE⟩ := HV.out.elem hlt'
      have htk := List.take_succ_eq_append_getElem hlt'
      have hnest := HV.out.depths k
      have hnx := hE.nest
      generalize l[k] = x at c0 c1 c2 c3 hE htk hnx
      obtain ⟨xk, xn, xs, xl⟩ := x
      obtain ⟨A', c', rfl, _⟩ := hE.form
      dsimp only [Val.kind, Val.num, Val.str, Val.elems] at c0 c1 c2 c3 hE
      have c0 := (hB.cell (p := ⟨b, off + k * 4, none⟩) hb).trans c0
      have c1 := (hB.cell (p := ⟨b, off + k * 4 + 1, none⟩) hb).trans c1
      have c2 := (hB.cell (p := ⟨b, off + k * 4 + 2, none⟩) hb).trans c2
      have c3 := (hB.cell (p := ⟨b, off + k * 4 + 3, none⟩) hb).trans c3
      have HE := Lib.hid ((hE.below hB).more hB.size)
      have HT := Lib.hid htk
      clear hE htk
      rcases hob : (Val.mk xk xn xs xl).okB with _ | _
      · have hno := form_no hob
        have hf : formT (.mk 3 0 [] l) = (0, false) := form_no (by
          have : okL (l.take (k + 1)) = false := by rw [HT.out, okL_snoc, hob, Bool.and_false]
          rw [Val.okB, if_neg (by decide), if_neg (by decide), if_pos rfl, okL_take this]
          simp)
        have HC := Lib.hid hno
        have HF := Lib.hid (hr.out.symm.trans hf)
        clear hob hno hf
        go_wp2_with fail
        refine (IH.out d' (by omega) (.mk xk xn xs xl) _ _ ((HE.out.below ((Below.refl _ _).alloc (Nat.le_refl _) _)).more (by simp))).mono ?_
        rw [HC.out]
        rintro e w1 ⟨rfl, hb1⟩
        have hB' := hB.trans ((((Below.refl wr.heap.size wr).alloc (Nat.le_refl _) _).trans (hb1.mono (by simp))).mono hB.size)
        clear hb1 hB
        go_wp2
        obtain ⟨h1, h2⟩ := Prod.mk.inj HF.out
        go_ret2
        exact ⟨by rw [h1, h2]; rfl, hB'⟩
      · have hyes := form_ok hob
        have hoe := hok.out
        obtain ⟨xd, hxd⟩ : ∃ xd, (Val.mk xk xn xs xl).depth = xd := ⟨_, rfl⟩
        have hxl : xd ≤ d' + 1 := by
          rw [← hxd]
          have := (Val.mk xk xn xs xl).depth_nest
          rw [Val.nest] at this
          simp only [Val.elems] at hnx
          omega
        rw [hxd] at hyes
        have HK := Lib.hid (show okL (l.take (k + 1)) = true by rw [HT.out, okL_snoc, hob, hoe]; rfl)
        have HD := Lib.hid (show depthL (l.take (k + 1)) = max (depthL (l.take k)) xd by rw [HT.out, depthL_snoc, hxd])
        have HC := Lib.hid hyes
        clear hob hyes hoe hxd hok
        generalize depthL (l.take k) = dl at hnest HD
        go_wp2_with fail
        refine (IH.out d' (by omega) (.mk xk xn xs xl) _ _ ((HE.out.below ((Below.refl _ _).alloc (Nat.le_refl _) _)).more (by simp))).mono ?_
        rw [HC.out]
        rintro e w1 ⟨rfl, hb1⟩
        have hB' := hB.trans ((((Below.refl wr.heap.size wr).alloc (Nat.le_refl _) _).trans (hb1.mono (by simp))).mono hB.size)
        clear hb1 hB
        go_wp2
        all_goals
          refine ⟨⟨k + 1, by omega, by go_num, ?_, HK, hB'⟩, by simp [intOf]; omega⟩
          rw [HD.out]
          first
            | rfl
            | (congr 1; omega)
    · obtain rfl : k = n := by omega
      have hfull : l.take k = l := List.take_of_length_le (by rw [HN.out]; exact Nat.le_refl _)
      have hdep := HV.out.depths k
      have hoe := hok.out
      rw [hfull] at hoe hdep ⊢
      have hf : formT (.mk 3 0 [] l) = (((depthL l + 1 : Nat) : Int), true) := by
        have h1 : (Val.mk 3 0 [] l).okB = true := by rw [Val.okB, if_neg (by decide), if_neg (by decide), if_pos rfl, hoe]; rfl
        rw [form_ok h1, Val.depth, if_pos rfl]
      have e : ((depthL l + 1 : Nat) : Int) = (depthL l : Int) + 1 := by omega
      rw [e] at hf
      have HF := Lib.hid (hr.out.symm.trans hf)
      clear hok hfull hoe hf e
      generalize depthL l = dl at hdep HF ⊢
      go_wp2
      obtain ⟨h1, h2⟩ := Prod.mk.inj HF.out
      go_ret2
      exact ⟨by rw [h1, h2]; rfl, hB⟩

theorem FormedAll.all (d : Nat) (hd : d ≤ 1000) : FormedAll d := by
  induction d using Nat.strongRecOn with
  | _ d ih =>
    intro x L w hV
    obtain ⟨k, n, s, l⟩ := x
    obtain ⟨A, c, rfl, hm⟩ := hV.form
    dsimp only [Val.elems] at hV hm
    dsimp only [Val.v, Val.kind, Val.num, Val.str]
    unfold maxLen at hm
    have hi : s.isEmpty = decide (s = []) := isEmpty_iff
    have hj : l.isEmpty = decide (l.length = 0) := len_isEmpty
    by_cases h1 : k = 1
    · subst h1
      have e : formT (.mk 1 n s l) = (0, (decide (s = []) && decide (l.length = 0))) := by
        have : (Val.mk 1 n s l).okB = (decide (s = []) && decide (l.length = 0)) := by rw [Val.okB, if_pos rfl, hi, hj]
        rw [form_leaf rfl, this]
      rw [e]
      exact cFormed_1 n s A _ c w (by simp [Val.elems] at hm ⊢; omega)
    by_cases h2 : k = 2
    · subst h2
      have e : formT (.mk 2 n s l) = (0, (decide (n = 0) && decide (l.length = 0))) := by
        have : (Val.mk 2 n s l).okB = (decide (n = 0) && decide (l.length = 0)) := by rw [Val.okB, if_neg (by decide), if_pos rfl, hj]
        rw [form_leaf rfl, this]
      rw [e]
      exact cFormed_2 n s A _ c w (by simp [Val.elems] at hm ⊢; omega)
    by_cases h3 : k = 3
    · subst h3
      by_cases h4 : n = 0 ∧ s = []
      · obtain ⟨rfl, rfl⟩ := h4
        exact cFormed_3 d hd (fun d' hd' => ih d' hd' (by omega)) l A c w hV _ _ (Lib.hid rfl)
      · have e : formT (.mk 3 n s l) = (0, false) := form_no (by
          rw [Val.okB, if_neg (by decide), if_neg (by decide), if_pos rfl, hi]
          by_cases h5 : n = 0
          · rw [decide_eq_false (p := s = []) (fun h6 => h4 ⟨h5, h6⟩)]; simp
          · rw [decide_eq_false h5]; rfl)
        rw [e]
        exact cFormed_3no n s A _ c w (by
          by_cases h5 : n = 0
          · exact Lib.hid (.inr fun h6 => h4 ⟨h5, h6⟩)
          · exact Lib.hid (.inl h5))
    · have e : formT (.mk k n s l) = (0, false) := form_no (by rw [Val.okB, if_neg h1, if_neg h2, if_neg h3])
      rw [e]
      exact cFormed_other k n s A _ c w (by omega)

end Go.Proofs.Ytcokkloaljaanaa
