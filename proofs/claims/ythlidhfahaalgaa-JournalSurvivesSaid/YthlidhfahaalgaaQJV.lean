/-
  generation of the reference of chapter 5; slices.EqualFunc over rows. A sector has 128 bytes.
-/
import Derived.Test.YthlidhfahaalgaaQJU
import Derived.Lib.MinMax
import Derived.Test.YthlidhfahaalgaaQJD
namespace Go.Proofs.Ythlidhfahaalgaa
open Go.RowKit
attribute [local go_sem ↓ high] app_named cop_named

def tailT (s : Bs) : Nat := numT (s.drop 124)
def genS (n : Nat) (s : Bs) : Nat := max n (max (genT s) (tailT s))
/-- The greatest generation on some sectors. -/
def genM (l : List Bs) : Nat := l.foldl genS 0
theorem genM_succ {l : List Bs} {k : Nat} (hk : k < l.length) : genM (l.take (k + 1)) = max (genM (l.take k)) (max (genT l[k]) (tailT l[k])) := by
  rw [List.take_succ_eq_append_getElem hk, genM, List.foldl_append]; rfl
theorem genT_lt {s : Bs} (h : s.length = 128) : genT s < 4294967296 := numT_lt4 (by simp; omega)
theorem tailT_lt {s : Bs} (h : s.length = 128) : tailT s < 4294967296 := numT_lt4 (by simp; omega)
theorem genM_lt {l : List Bs} (h : ∀ s ∈ l, s.length = 128) : genM l < 4294967296 := by
  suffices H : ∀ n, n < 4294967296 → l.foldl genS n < 4294967296 from H 0 (by decide)
  induction l with
  | nil => intro n hn; exact hn
  | cons s l ih =>
    intro n hn
    have h1 := h s List.mem_cons_self
    have h2 := genT_lt h1
    have h3 := tailT_lt h1
    exact ih (fun s hs => h s (List.mem_cons_of_mem _ hs)) _ (by unfold genS; omega)
theorem numberTail_at {s : Bs} {b o c g : Nat} {S : Nat → Prop} {w : World} (h : BsAt w S (.slice (some ⟨b, o, none⟩) 128 c) s) (hs : s.length = 128) (hc : 128 ≤ c ∧ c ≤ maxLen) (hg : tailT s = g) (x : Later w) :
    Calls Try.prog 63 #[.slice (some ⟨b, o + 124, none⟩) 4 (c - 124)] x.w fun e w' => e = .returned (.int .u64 (g : Nat)) ∧ x.w = w' :=
  (jNumber_at (l := s.drop 124) (n := 4) (S := S) (by have := (h.keep (Keeps.of x.below)).sub 124 4 (c - 124) (by omega) (by omega) (by have := hc.2; omega) hs; rwa [List.take_of_length_le (by simp; omega)] at this) (by simp; omega) (by omega) hg).mono fun _ _ h => ⟨h.1, h.2.symm⟩
theorem getTail_at {s : Bs} {b o c g : Nat} {S : Nat → Prop} {w : World} (h : BsAt w S (.slice (some ⟨b, o, none⟩) 128 c) s) (hs : s.length = 128) (hc : 128 ≤ c ∧ c ≤ maxLen) (hg : tailT s = g) (x : Later w) :
    Calls Try.prog 41 #[.slice (some ⟨b, o + 124, none⟩) 4 (c - 124)] x.w fun e w' => e = .returned (.int .u64 (g : Nat)) ∧ x.w = w' :=
  (jGet_at (l := s.drop 124) (n := 4) (S := S) (by have := (h.keep (Keeps.of x.below)).sub 124 4 (c - 124) (by omega) (by omega) (by have := hc.2; omega) hs; rwa [List.take_of_length_le (by simp; omega)] at this) (by simp; omega) (by omega) hg).mono fun _ _ h => ⟨h.1, h.2.symm⟩

set_option maxRecDepth 100000 in
set_option maxHeartbeats 8000000 in
theorem jRGeneration_any (L : List Bs) (A : Option Addr) (m c : Nat) (Sd : Nat → Prop) (w : World)
    (hL : Hid (RwAt w Sd (.slice A m c) L)) (hm : Hid (L.length = m)) (hm2 : m ≤ 4096) (h128 : Hid (∀ s ∈ L, s.length = 128)) :
    Calls Try.prog 45 #[.slice A m c] w fun e w' => e = .returned (.int .u64 ((genM L + 1 : Nat) : Int)) ∧ Below w.heap.size w w' := by
  obtain ⟨T, hT⟩ : ∃ T, genM L = T := ⟨_, rfl⟩
  have hTl : T < 4294967296 := by rw [← hT]; exact genM_lt h128.out
  rw [hT]
  have HT := Lib.hid hT
  clear hT
  go_enter Try.func45, Try.ntmps45
  go_wp2
  go_loopw [3, 4] (fun s3 s4 wi => ∃ (k n : Nat), k ≤ m ∧ s4 = .int .i64 (k : Int) ∧ s3 = .int .u64 (n : Int) ∧ Hid (genM (L.take k) = n) ∧ Below w.heap.size w wi) (fun _ s4 _ => m - (intOf s4).toNat)
  case atStart => exact ⟨0, 0, by omega, rfl, rfl, rfl, Below.refl _ _⟩
  case round =>
    obtain ⟨k, n, hk, rfl, rfl, hn, hBi⟩ := hrel
    obtain ⟨wi, rfl⟩ : ∃ wi : World, wi = wr := ⟨_, rfl⟩
    rcases Nat.lt_or_ge k m with hlt | hge
    rotate_left
    · obtain rfl : k = m := by omega
      obtain rfl : T = n := by rw [← HT.out, ← hn.out, ← hm.out, List.take_length]
      go_wp2
      go_ret
      exact ⟨by first | rfl | simp, hBi⟩
    have hqL : k < L.length := by rw [hm.out]; exact hlt
    obtain ⟨lb, lo, bs, os, cs, hA, hSl, hzl, hcq, hbq, hcs1, hcs2⟩ := sec_at hL.out h128.out hqL
    subst hA
    have hsq := h128.out _ (List.getElem_mem hqL)
    have hKi : Keeps Sd w wi := Keeps.of hBi
    obtain ⟨g, hg⟩ : ∃ g, genT L[k] = g := ⟨_, rfl⟩
    obtain ⟨t, ht⟩ : ∃ t, tailT L[k] = t := ⟨_, rfl⟩
    have hg32 : g < 4294967296 := by rw [← hg]; exact genT_lt hsq
    have ht32 : t < 4294967296 := by rw [← ht]; exact tailT_lt hsq
    have hnx : Hid (genM (L.take (k + 1)) = max n (max g t)) := by rw [Hid, genM_succ hqL, hn.out, hg, ht]
    have hn32 : n < 4294967296 := by rw [← hn.out]; exact genM_lt fun s hs => h128.out s (List.mem_of_mem_take hs)
    have C1 := number4_at (hbq.keep hKi) hsq ⟨hcs1, hcs2⟩ hg
    have C2 := numberTail_at (hbq.keep hKi) hsq ⟨hcs1, hcs2⟩ ht
    have J1 := Later.cell (hKi.cell hSl hzl hcq) (Nat.lt_of_lt_of_le hzl hKi.1)
    have i0 : (0 : Int) ≤ (k : Int) := by omega
    have i1 : (k : Int) < (m : Int) := by omega
    have hcsl : (cs : Int) ≤ 9223372036854775807 := by simp only [maxLen] at hcs2; omega
    clear hg ht hsq hbq hcq hn
    go_wp2_with fail
    refine wp_region_later (by kernel_rfl) (by kernel_rfl) ?_
    repeat (go_big_quiet_step ((go_at_call 63; first | with_reducible exact Later.same _ (C1 _) | with_reducible exact Later.same _ (C2 _))))
    refine wpQuiet_nil ?_
    intro _ hw'
    obtain ⟨yq, hw''⟩ := hw'
    subst hw''
    go_wp2
    refine ⟨⟨k + 1, max n (max g t), by omega, by go_num, ?_, hnx, hBi.trans (yq.below.mono hBi.size)⟩, by simp [intOf] <;> omega⟩
    congr 1
    split <;> split <;> omega

theorem eq_step {a b : List Bs} {n k : Nat} (ha : a.length = n) (hb : b.length = n) (hk : k < n) (hp : a.take k = b.take k) : (decide (a.getD k [] = b.getD k []) = true → a.take (k + 1) = b.take (k + 1)) ∧ (decide (a.getD k [] = b.getD k []) = false → decide (a = b) = false) := by
  constructor
  · intro h
    have h := of_decide_eq_true h
    rw [List.getD_eq_getElem?_getD, List.getD_eq_getElem?_getD, List.getElem?_eq_getElem (by omega), List.getElem?_eq_getElem (by omega)] at h
    rw [List.take_succ_eq_append_getElem (by omega), List.take_succ_eq_append_getElem (by omega), hp]
    exact congrArg _ (congrArg (· :: []) h)
  · intro h
    refine decide_eq_false fun e => of_decide_eq_false h (by rw [e])
theorem row_at {w : World} {S : Nat → Prop} {A : Option Addr} {n c k : Nat} {l : List Bs} (h : RwAt w S (.slice A n c) l) (hk : k < l.length) :
    ∃ b off Ar nr cr, A = some ⟨b, off, none⟩ ∧ b < w.heap.size ∧ w.cell? ⟨b, off + k, none⟩ = some (.slice Ar nr cr) ∧ BsAt w S (.slice Ar nr cr) (l.getD k []) := by
  obtain ⟨b, off, V, e, _, hz, hc, hb⟩ := h.row hk
  obtain ⟨Ar, cr, rfl, _⟩ := hb.form
  refine ⟨b, off, Ar, _, cr, e, hz, hc, ?_⟩
  rw [List.getD_eq_getElem?_getD, List.getElem?_eq_getElem hk]
  exact hb

set_option maxRecDepth 100000 in
set_option maxHeartbeats 8000000 in
theorem jEqualF_any (a b : List Bs) (A B : Option Addr) (n c m d : Nat) (S T : Nat → Prop) (w : World) (ha : Hid (RwAt w S (.slice A n c) a)) (hb : Hid (RwAt w T (.slice B m d) b)) (hn : Hid (a.length = n)) (hm : Hid (b.length = m)) (hn2 : n ≤ 9223372036854775807) (hm2 : m ≤ 9223372036854775807) (r : Bool) (hr : Hid (decide (a = b) = r)) :
    Calls Try.prog 42 #[.slice A n c, .slice B m d, .func (.func 43) #[] #[]] w fun e w' => e = .returned (.bool r) ∧ w' = w := by
  by_cases hnm : n = m
  rotate_left
  · obtain rfl : r = false := hr.out.symm.trans (decide_eq_false fun e => hnm (by rw [← hn.out, ← hm.out, e]))
    have h1 : ((n : Int) == (m : Int)) = false := by simp; omega
    have h2 : ((n : Int) != (m : Int)) = true := by simp; omega
    clear ha hb hn hm hr hnm
    go_enter Try.func42, Try.ntmps42
    go_wp2
    go_ret
    exact ⟨rfl, rfl⟩
  subst hnm
  go_enter Try.func42, Try.ntmps42
  go_wp2
  go_loopw [17] (fun i wr => ∃ k : Nat, k ≤ n ∧ i = .int .i64 k ∧ Hid (a.take k = b.take k) ∧ wr = w) (fun i _ => n - (intOf i).toNat)
  case atStart => exact ⟨0, Nat.zero_le _, rfl, rfl, rfl⟩
  case round =>
    obtain ⟨k, hk, rfl, hp, rfl⟩ := hrel
    rcases Nat.lt_or_ge k n with hlt | hge
    rotate_left
    · obtain rfl : k = n := by omega
      obtain rfl : r = true := by
        rw [← hr.out]
        have h := hp.out
        rw [List.take_of_length_le (by rw [hn.out]; exact Nat.le_refl k), List.take_of_length_le (by rw [hm.out]; exact Nat.le_refl k)] at h
        exact decide_eq_true h
      clear ha hb hn hm hr hp
      go_wp2
      go_ret
      exact ⟨rfl, rfl⟩
    obtain ⟨h1, h2⟩ := eq_step hn.out hm.out hlt hp.out
    obtain ⟨ab, ao, Ar, nr, cr, rfl, haz, hac, hab⟩ := row_at ha.out (show k < a.length by rw [hn.out]; exact hlt)
    obtain ⟨bb, bo, Br, mr, dr, rfl, hbz, hbc, hbb⟩ := row_at hb.out (show k < b.length by rw [hm.out]; exact hlt)
    obtain ⟨t, ht⟩ : ∃ t, decide (a.getD k [] = b.getD k []) = t := ⟨_, rfl⟩
    have C := jEqual_any hab hbb ht
    rw [ht] at h1 h2
    have H1 := Lib.hid h1
    have H2 := Lib.hid h2
    have i0 : (0 : Int) ≤ (k : Int) := by omega
    have i1 : (k : Int) < (n : Int) := by omega
    clear h1 h2 ht hab hbb hp
    go_wp2_with fail
    refine C.mono ?_
    rintro e w2 ⟨rfl, rfl⟩
    rcases t with _ | _
    · obtain rfl : r = false := hr.out.symm.trans (H2.out rfl)
      go_wp2
      go_ret
      exact ⟨rfl, rfl⟩
    · have hp2 := Lib.hid (H1.out rfl)
      go_wp2
      exact ⟨⟨k + 1, by omega, by go_num, hp2, trivial⟩, by simp [intOf] <;> omega⟩
theorem _root_.Go.Proofs.Ythlidhfahaalgaa.Later.str0 {w : World} {S : Nat → Prop} {v : Value} {l : Bs} (h : BsAt w S v l) (x : Later w) : (convert 35 9 v).run Try.prog x.w = .ok (.string (strB l)) x.w := (h.keep (Keeps.of x.below)).str
set_option maxRecDepth 100000 in
set_option maxHeartbeats 8000000 in
theorem jRSameRecs_any (a b : List Bs) (A B : Option Addr) (n c m d : Nat) (S T : Nat → Prop) (w : World) (ha : Hid (RwAt w S (.slice A n c) a)) (hb : Hid (RwAt w T (.slice B m d) b)) (hn : Hid (a.length = n)) (hm : Hid (b.length = m)) (hn2 : n ≤ 9223372036854775807) (hm2 : m ≤ 9223372036854775807) (r : Bool) (hr : Hid (decide (a = b) = r)) :
    Calls Try.prog 24 #[.slice A n c, .slice B m d] w fun e w' => e = .returned (.bool r) ∧ Below w.heap.size w w' := by
  by_cases hnm : n = m
  rotate_left
  · obtain rfl : r = false := hr.out.symm.trans (decide_eq_false fun e => hnm (by rw [← hn.out, ← hm.out, e]))
    have h1 : ((n : Int) == (m : Int)) = false := by simp; omega
    have h2 : ((n : Int) != (m : Int)) = true := by simp; omega
    clear ha hb hn hm hr hnm
    go_enter Try.func24, Try.ntmps24
    go_wp2
    go_ret
    exact ⟨rfl, Below.refl _ _⟩
  subst hnm
  go_enter Try.func24, Try.ntmps24
  go_wp2
  go_loopw [5] (fun i wr => ∃ k : Nat, k ≤ n ∧ i = .int .i64 k ∧ Hid (a.take k = b.take k) ∧ Below w.heap.size w wr) (fun i _ => n - (intOf i).toNat)
  case atStart => exact ⟨0, Nat.zero_le _, rfl, rfl, Below.refl _ _⟩
  case round =>
    obtain ⟨k, hk, rfl, hp, hBi⟩ := hrel
    rcases Nat.lt_or_ge k n with hlt | hge
    rotate_left
    · obtain rfl : k = n := by omega
      obtain rfl : r = true := by
        rw [← hr.out]
        have h := hp.out
        rw [List.take_of_length_le (by rw [hn.out]; exact Nat.le_refl k), List.take_of_length_le (by rw [hm.out]; exact Nat.le_refl k)] at h
        exact decide_eq_true h
      clear ha hb hn hm hr hp
      go_wp2
      go_ret
      exact ⟨rfl, hBi⟩
    obtain ⟨h1, h2⟩ := eq_step hn.out hm.out hlt hp.out
    obtain ⟨ab, ao, Ar, nr, cr, rfl, haz, hac, hab⟩ := row_at (ha.out.keep (Keeps.of hBi)) (show k < a.length by rw [hn.out]; exact hlt)
    obtain ⟨bb, bo, Br, mr, dr, rfl, hbz, hbc, hbb⟩ := row_at (hb.out.keep (Keeps.of hBi)) (show k < b.length by rw [hm.out]; exact hlt)
    obtain ⟨t, ht⟩ : ∃ t, decide (a.getD k [] = b.getD k []) = t := ⟨_, rfl⟩
    obtain ⟨s1, s2, s3⟩ := str_cmp ht
    have cv := Later.str0 hab
    have cu := Later.str0 hbb
    generalize strB (a.getD k []) = sa at s1 s2 s3 cv
    generalize strB (b.getD k []) = sb at s1 s2 s3 cu
    have J1 := Later.cell hac haz
    have J2 := Later.cell hbc hbz
    rw [ht] at h1 h2
    have H1 := Lib.hid h1
    have H2 := Lib.hid h2
    have i0 : (0 : Int) ≤ (k : Int) := by omega
    have i1 : (k : Int) < (n : Int) := by omega
    clear h1 h2 ht hab hbb hp
    go_wp2_with fail
    refine wp_region_later (by kernel_rfl) (by kernel_rfl) ?_
    repeat (go_big_quiet_step (fail))
    refine wpQuiet_nil ?_
    intro _ hw'
    obtain ⟨yq, hw''⟩ := hw'
    subst hw''
    rcases t with _ | _
    · obtain rfl : r = false := hr.out.symm.trans (H2.out rfl)
      go_wp2
      go_ret
      exact ⟨rfl, hBi.trans (yq.below.mono hBi.size)⟩
    · have hp2 := Lib.hid (H1.out rfl)
      go_wp2
      exact ⟨⟨k + 1, by omega, by go_num, hp2, hBi.trans (yq.below.mono hBi.size)⟩, by simp [intOf] <;> omega⟩

end Go.Proofs.Ythlidhfahaalgaa

/-
  Same of the reference of chapter 5, few of its law, numeral and Sector. No condition but the lengths.
-/
namespace Go.Proofs.Ythlidhfahaalgaa
open Go.RowKit
attribute [local go_sem ↓ high] app_named cop_named

def sameJ (a b : Jn) : Bool := decide (a.many = b.many) && (decide (a.synced = b.synced) && decide (a.records = b.records))
theorem sameJ_eq {a b : Jn} : sameJ a b = true ↔ a = b := by
  obtain ⟨r, m, s⟩ := a
  obtain ⟨r', m', s'⟩ := b
  simp [sameJ]
  constructor
  · rintro ⟨rfl, rfl, rfl⟩; exact ⟨rfl, rfl, rfl⟩
  · rintro ⟨rfl, rfl, rfl⟩; exact ⟨rfl, rfl, rfl⟩
set_option maxRecDepth 100000 in
set_option maxHeartbeats 8000000 in
theorem jRSame_any (a b : Jn) (A B : Option Addr) (n c m d : Nat) (S T : Nat → Prop) (w : World) (ha : Hid (RwAt w S (.slice A n c) a.records)) (hb : Hid (RwAt w T (.slice B m d) b.records)) (hn : Hid (a.records.length = n)) (hm : Hid (b.records.length = m)) (am as' bm bs' : Int) (h1 : Hid (a.many = am)) (h2 : Hid (a.synced = as')) (h3 : Hid (b.many = bm)) (h4 : Hid (b.synced = bs')) (r : Bool) (hr : Hid (sameJ a b = r)) :
    Calls Try.prog 14 #[.agg #[.slice A n c, .int .i64 am, .int .i64 as'], .agg #[.slice B m d, .int .i64 bm, .int .i64 bs']] w fun e w' => e = .returned (.bool r) ∧ Below w.heap.size w w' := by
  have hB := ((Below.refl w.heap.size w).alloc (Nat.le_refl _) (.cells #[.slice A n c, .int .i64 am, .int .i64 as'] 29)).alloc (by simp) (.cells #[.slice B m d, .int .i64 bm, .int .i64 bs'] 29)
  by_cases e1 : am = bm
  rotate_left
  · obtain rfl : r = false := by rw [← hr.out, sameJ, decide_eq_false (by rw [h1.out, h3.out]; exact e1), Bool.false_and]
    have k1 : (am == bm) = false := by simp [e1]
    clear ha hb hn hm h1 h2 h3 h4 hr e1
    go_enter Try.func14, Try.ntmps14
    go_wp2
    go_ret
    exact ⟨rfl, hB⟩
  subst e1
  by_cases e2 : as' = bs'
  rotate_left
  · obtain rfl : r = false := by rw [← hr.out, sameJ, decide_eq_false (p := a.synced = b.synced) (by rw [h2.out, h4.out]; exact e2), Bool.false_and, Bool.and_false]
    have k1 : (as' == bs') = false := by simp [e2]
    clear ha hb hn hm h1 h2 h3 h4 hr e2
    go_enter Try.func14, Try.ntmps14
    go_wp2
    go_ret
    exact ⟨rfl, hB⟩
  subst e2
  have hln : n ≤ 9223372036854775807 := by obtain ⟨_, _, e, h⟩ := ha.out.form; rw [← hn.out]; simpa only [maxLen] using h
  have hlm : m ≤ 9223372036854775807 := by obtain ⟨_, _, e, h⟩ := hb.out.form; rw [← hm.out]; simpa only [maxLen] using h
  have C := jRSameRecs_any a.records b.records A B n c m d S T _ (Lib.hid (ha.out.keep (Keeps.of hB))) (Lib.hid (hb.out.keep (Keeps.of hB))) hn hm hln hlm r (Lib.hid (by rw [← hr.out, sameJ, decide_eq_true (p := a.many = b.many) (by rw [h1.out, h3.out]), decide_eq_true (p := a.synced = b.synced) (by rw [h2.out, h4.out])]; rfl))
  clear ha hb hn hm h1 h2 h3 h4 hr
  go_enter Try.func14, Try.ntmps14
  go_wp2_with fail
  refine C.mono ?_
  rintro e w1 ⟨rfl, hb1⟩
  have HE := Lib.hid (hB.trans (hb1.mono hB.size))
  clear hb1 hB C
  rcases r with _ | _
  all_goals
    go_wp2
    go_ret
    exact ⟨rfl, HE.out⟩

def RetFew (ns np : Nat) (l : List Bs) (w : World) (e : Ending) (w' : World) : Prop := ∃ t, e = .returned (.bool t) ∧ Hid (t = true → ns ≤ 40 ∧ np ≤ 40 ∧ (sumB l ≤ 4194304 → sumB l ≤ 4000)) ∧ Below w.heap.size w w'
theorem sumB_take_succ {l : List Bs} {k : Nat} (hk : k < l.length) : sumB (l.take (k + 1)) = sumB (l.take k) + ((l[k]).length + 1) := by
  rw [List.take_succ_eq_append_getElem hk, sumB_append]
  simp [sumB]
set_option maxRecDepth 100000 in
set_option maxHeartbeats 8000000 in
theorem jFew_any (As : Option Addr) (ns cs : Nat) (Ap : Option Addr) (np cp : Nat) (dl : Int) (ds : Bool) (l : List Bs) (A : Option Addr) (n c : Nat) (T : Nat → Prop) (w : World)
    (hR : Hid (RwAt w T (.slice A n c) l)) (hn : Hid (l.length = n)) (hn2 : n ≤ 9223372036854775807) :
    Calls Try.prog 11 #[.agg #[.slice As ns cs, .slice Ap np cp, .int .i64 dl, .bool ds], .slice A n c] w (RetFew ns np l w) := by
  have hB := (Below.refl w.heap.size w).alloc (Nat.le_refl _) (.cells #[.slice As ns cs, .slice Ap np cp, .int .i64 dl, .bool ds] 25)
  have X := Box.new w [.slice As ns cs, .slice Ap np cp, .int .i64 dl, .bool ds] 25
  go_enter Try.func11, Try.ntmps11
  go_wp2
  go_loopw [5, 10] (fun s5 s10 wi => ∃ (k : Nat) (z : Int), k ≤ n ∧ s10 = .int .i64 (k : Int) ∧ s5 = .int .i64 z ∧ Hid (sumB l ≤ 4194304 → z = (sumB (l.take k) : Nat)) ∧ wi = w.alloc (.cells #[.slice As ns cs, .slice Ap np cp, .int .i64 dl, .bool ds] 25)) (fun _ s10 _ => n - (intOf s10).toNat)
  case atStart => exact ⟨0, 0, Nat.zero_le _, rfl, rfl, Lib.hid fun _ => rfl, rfl⟩
  case round =>
    obtain ⟨k, z, hk, rfl, rfl, hz, rfl⟩ := hrel
    rcases Nat.lt_or_ge k n with hlt | hge
    · obtain ⟨b, o, Ar, nr, cr, rfl, hbz, hbc, hbs⟩ := row_at (hR.out.keep (Keeps.of hB)) (show k < l.length by rw [hn.out]; exact hlt)
      have hlr : (l.getD k []).length = nr := by
        obtain ⟨A', c', e, _⟩ := hbs.form
        cases e; rfl
      have hlk : l.getD k [] = l[k]'(by rw [hn.out]; exact hlt) := by rw [List.getD_eq_getElem?_getD, List.getElem?_eq_getElem]; rfl
      have hz2 : Hid (sumB l ≤ 4194304 → wrap64 (z + wrap64 (1 + (nr : Int))) = (sumB (l.take (k + 1)) : Nat)) := Lib.hid fun hs => by
        have h1 := sumB_take_succ (l := l) (k := k) (by rw [hn.out]; exact hlt)
        have h2 := sumB_take_le l (k + 1)
        rw [← hlk, hlr] at h1
        rw [hz.out hs, IntWalk.wrap64_in (1 + (nr : Int)) (by omega), IntWalk.wrap64_in _ (by omega)]
        omega
      have i0 : (0 : Int) ≤ (k : Int) := by omega
      have i1 : (k : Int) < (n : Int) := by omega
      clear hlk hlr hbs hz
      go_wp2
      exact ⟨⟨k + 1, _, by omega, by go_num, rfl, hz2, trivial⟩, by simp [intOf] <;> omega⟩
    · obtain rfl : k = n := by omega
      have HZ := Lib.hid (fun h => hz.out h)
      have hEnd : Hid (sumB l ≤ 4194304 → (z ≤ 4000 ↔ sumB l ≤ 4000)) := Lib.hid fun hs => by
        rw [hz.out hs, List.take_of_length_le (by rw [hn.out]; exact Nat.le_refl k)]
        omega
      have x0 : (w.alloc (.cells #[.slice As ns cs, .slice Ap np cp, .int .i64 dl, .bool ds] 25)).cell? ⟨w.heap.size, 0, none⟩ = some (.slice As ns cs) := X.cell 0
      have x1 : (w.alloc (.cells #[.slice As ns cs, .slice Ap np cp, .int .i64 dl, .bool ds] 25)).cell? ⟨w.heap.size, 1, none⟩ = some (.slice Ap np cp) := X.cell 1
      clear hz hR HZ
      by_cases q1 : ns ≤ 40
      rotate_left
      · have d1 : decide ((ns : Int) ≤ 40) = false := by simp; omega
        go_wp2
        go_ret
        exact ⟨false, rfl, Lib.hid (fun h => (by cases h)), hB⟩
      have d1 : decide ((ns : Int) ≤ 40) = true := by simp; omega
      by_cases q2 : np ≤ 40
      rotate_left
      · have d2 : decide ((np : Int) ≤ 40) = false := by simp; omega
        go_wp2
        go_ret
        exact ⟨false, rfl, Lib.hid (fun h => (by cases h)), hB⟩
      have d2 : decide ((np : Int) ≤ 40) = true := by simp; omega
      by_cases q3 : z ≤ 4000
      · have d3 : decide (z ≤ 4000) = true := by simp [q3]
        go_wp2
        go_ret
        exact ⟨true, rfl, Lib.hid (fun _ => ⟨q1, q2, fun hs => (hEnd.out hs).1 q3⟩), hB⟩
      · have d3 : decide (z ≤ 4000) = false := by simp; omega
        go_wp2
        go_ret
        exact ⟨false, rfl, Lib.hid (fun h => (by cases h)), hB⟩

end Go.Proofs.Ythlidhfahaalgaa

/-
  numeral of the reference of chapter 5. No condition.
-/
namespace Go.Proofs.Ythlidhfahaalgaa
open Go.RowKit
attribute [local go_sem ↓ high] app_named cop_named

theorem make_bn (w : World) (n : Nat) (hn : n ≤ 128) : ∃ w', (Instr.makeSlice 35 (.int .i64 (n : Int)) (.int .i64 (n : Int))).run Try.prog w = .ok (.slice (some ⟨w.heap.size, 0, none⟩) n n) w' ∧ OwnBs w' w.heap.size (.slice (some ⟨w.heap.size, 0, none⟩) n n) (List.replicate n 0) ∧ Below w.heap.size w w' := by
  obtain ⟨i, E⟩ := elem_by
  obtain ⟨w', hr, ho, hg⟩ := run_makeSlice_full (P := Try.prog) w w.heap.size 35 5 i (.int .u8 0) 1 E.ht E.hi E.hz E.hsize .i64 .i64 n (by omega) (by rw [E.hby]; omega) (by simp only [maxLen]; omega) (Nat.le_refl _)
  refine ⟨w', hr, ?_, (Below.refl _ _).grown hg (Nat.le_refl _) (fun k hk => by cases hk)⟩
  have e : byV (List.replicate n 0) = (madeCells (Value.int .u8 0).cells (n * 1)).toList := by rw [byV, List.map_replicate]; exact made_zeros n
  unfold OwnBs
  rw [e, List.length_replicate]
  exact ho
theorem numeral_drop (n m j : Nat) (b : Nat) (hj : j + 1 ≤ m) : (List.replicate (j + 1) (0 : UInt8) ++ numeral n (m - (j + 1))).set j (UInt8.ofNat (n / 256 ^ (m - (j + 1)))) = List.replicate j 0 ++ numeral n (m - j) := by
  have _ := b
  rw [show m - j = (m - (j + 1)) + 1 by omega, numeral_cons, List.replicate_succ', List.append_assoc, List.set_append_right _ _ (by simp)]
  simp
set_option maxRecDepth 100000 in
set_option maxHeartbeats 8000000 in
theorem jRNumeral_any (n m : Nat) (w : World) (hm : m ≤ 4) (hn : n < 18446744073709551616) :
    Calls Try.prog 66 #[.int .u64 (n : Int), .int .i64 (m : Int)] w fun e w' => e = .returned (.slice (some ⟨w.heap.size, 0, none⟩) m m) ∧ Hid (OwnBs w' w.heap.size (.slice (some ⟨w.heap.size, 0, none⟩) m m) (numeral n m)) ∧ Below w.heap.size w w' := by
  obtain ⟨w1, hmk, ho1, hb1⟩ := make_bn w m (by omega)
  have HO1 := Lib.hid ho1
  clear ho1
  go_enter Try.func66, Try.ntmps66
  go_wp2
  go_loopw [0, 6] (fun s0 s6 wi => ∃ (j x : Nat) (i : Int), j ≤ m ∧ s6 = .int .i64 i ∧ Hid (i + 1 = j) ∧ s0 = .int .u64 (x : Int) ∧ Hid (x = n / 256 ^ (m - j)) ∧ x < 18446744073709551616 ∧ Hid (OwnBs wi w.heap.size (.slice (some ⟨w.heap.size, 0, none⟩) m m) (List.replicate j 0 ++ numeral n (m - j))) ∧ Below w.heap.size w wi) (fun _ s6 _ => ((intOf s6) + 1).toNat)
  case atStart => exact ⟨m, n, (m : Int) - 1, Nat.le_refl _, rfl, Lib.hid (by omega), rfl, Lib.hid (by simp), hn, Lib.hid (by simpa [numeral] using HO1.out), hb1⟩
  case round =>
    clear hmk HO1 hb1
    obtain ⟨j, x, i, hj, rfl, hi, rfl, hx, hx64, ho, hB⟩ := hrel
    rcases j with _ | j
    · obtain rfl : i = -1 := by have := hi.out; omega
      go_wp2
      go_ret
      exact ⟨rfl, Lib.hid (by have := ho.out; simpa using this), hB⟩
    obtain rfl : i = (j : Int) := by have := hi.out; omega
    have hlen : (List.replicate (j + 1) (0 : UInt8) ++ numeral n (m - (j + 1))).length = m := by simp [numeral_length]; omega
    have hoo := ho.out
    unfold OwnBs at hoo
    rw [hlen] at hoo
    obtain ⟨hg1, hg2, hcell, hfree⟩ := own_cell hoo
    have hc := hcell j (by omega)
    rw [byV, List.getElem?_map, List.getElem?_eq_getElem (by omega), Option.map_some] at hc
    have hf := hfree j
    have hset := own_set (i := j) hoo (.int .u8 ((UInt8.ofNat x).toNat : Int))
    rw [← byV_setJ, hx.out, numeral_drop n m j 0 hj, ← hx.out] at hset
    have ho2 : OwnBs (wr.setCell ⟨w.heap.size, j, none⟩ (.int .u8 ((UInt8.ofNat x).toNat : Int))) w.heap.size (.slice (some ⟨w.heap.size, 0, none⟩) m m) (List.replicate j 0 ++ numeral n (m - j)) := by
      unfold OwnBs
      have : (List.replicate j (0 : UInt8) ++ numeral n (m - j)).length = m := by simp [numeral_length]; omega
      rw [this]
      exact hset
    have hx2 : Hid (x / 256 = n / 256 ^ (m - j)) := by
      rw [Hid, hx.out, Nat.div_div_eq_div_mul, ← Nat.pow_succ, show (m - (j + 1)).succ = m - j by omega]
    have hB2 := hB.setCell (p := ⟨w.heap.size, j, none⟩) (Nat.le_refl _) (.int .u8 ((UInt8.ofNat x).toNat : Int))
    have ev : ((UInt8.ofNat x).toNat : Int) = (x : Int) % 256 := by rw [UInt8.toNat_ofNat']; omega
    rw [ev] at ho2 hB2
    have HO2 := Lib.hid ho2
    have hi2 : Hid ((j : Int) - 1 + 1 = (j : Nat)) := Lib.hid (by omega)
    generalize (List.replicate (j + 1) (0 : UInt8) ++ numeral n (m - (j + 1)))[j]'(by omega) = y at hc
    have j1 : (j : Int) < (m : Int) := by omega
    clear hset ho2 hoo hcell hfree ev hlen ho hg1
    go_wp2
    exact ⟨⟨j, x / 256, _, by omega, rfl, hi2, by simp, hx2, by omega, HO2, hB2⟩, by simp [intOf] <;> omega⟩

theorem OwnBs.old {w : World} {base : Nat} {v : Value} {l : Bs} (h : OwnBs w base v l) (hm : l.length ≤ maxLen) : BsAt w (fun b => b < w.heap.size) v l := (h.bs hm).weak fun _ _ hl => hl
theorem BsAt.more {w w' : World} {v : Value} {l : Bs} (h : BsAt w (fun b => b < w.heap.size) v l) (hb : Below w.heap.size w w') : BsAt w' (fun b => b < w'.heap.size) v l := (h.keep (Keeps.of hb)).weak fun _ _ hl => hl
theorem box_all {w : World} {a n : Nat} {l : Bs} (h : Box w a (byV l)) (hn : l.length = n) (hm : n ≤ 128) : BsAt w (fun b => b = a) (.slice (some ⟨a, 0, none⟩) n n) l := by
  have := box_bs h 0 n n hn (by omega) (Nat.le_refl _) hm
  rwa [List.drop_zero, List.take_of_length_le (by omega)] at this

end Go.Proofs.Ythlidhfahaalgaa
