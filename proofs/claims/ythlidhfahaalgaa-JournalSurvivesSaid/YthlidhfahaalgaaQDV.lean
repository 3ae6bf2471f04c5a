/-
  Contracts of Same and Few of the reference of chapter 4. No condition.
-/
import Derived.Test.YthlidhfahaalgaaQDP
import Derived.Laws.BytesArg
namespace Go.Proofs.Ythlidhfahaalgaa
open Go.RowKit

def strB (l : Bs) : ByteArray := ⟨l.toArray⟩
theorem strB_inj {l m : Bs} : strB l = strB m ↔ l = m := by
  constructor
  · intro h
    have := congrArg (fun x : ByteArray => x.data.toList) h
    simpa [strB] using this
  · rintro rfl; rfl
theorem strOfNums_bytes (l : Bs) : strOfNums (l.map fun x => (x.toNat : Int)) = strB l := by
  unfold strOfNums strB
  congr 1
  simp [List.map_map, Function.comp_def]
/-- A slice of bytes as a string. -/
theorem BsAt.str {w : World} {S : Nat → Prop} {v : Value} {l : Bs} (h : BsAt w S v l) : (convert 35 9 v).run Try.prog w = .ok (.string (strB l)) w := by
  obtain ⟨_, A, c, rfl, hn, h1⟩ := h
  rcases A with _ | a
  · have hl : l = [] := by
      rcases l with _ | ⟨x, l⟩
      · rfl
      · obtain ⟨b, off, e, _⟩ := h1 0 (by simp)
        cases e
    subst hl
    rw [run_convert_bytes_nil w _ _ Try.underlying35 Try.underlying5 _ _ _ Try.underlying9]
    rfl
  · rcases Nat.eq_zero_or_pos l.length with h0 | h0
    · have hl : l = [] := List.eq_nil_of_length_eq_zero h0
      subst hl
      have hl : (loadCells a 0).run Try.prog w = .ok (([] : List Int).map (Value.int .u8)).toArray w := by simpa using run_loadCells_list (P := Try.prog) w a [] (fun j v hj => by simp at hj)
      rw [run_convert_bytes_string w _ _ _ _ _ _ Try.underlying35 Try.underlying5 Try.underlying9, List.length_nil, run_bytesToString w a 0 c [] hl]
      rfl
    · obtain ⟨b, off, e, _⟩ := h1 0 h0
      cases e
      rw [run_convert_bytes_arg w _ _ Try.underlying35 Try.underlying5 b off l.length c (l.map fun x => (x.toNat : Int)) (by simp) (fun i hi => ?_) _ Try.underlying9, strOfNums_bytes]
      obtain ⟨b', off', e', _, _, h3⟩ := h1 i hi
      cases e'
      have := h3 0 (by omega)
      rw [Nat.mul_one, Nat.add_zero] at this
      rw [this]
      simp [List.getD_eq_getElem?_getD, List.getElem?_eq_getElem hi]
theorem str_cmp {a b : Bs} {t : Bool} (h : decide (a = b) = t) : ((strB a).toList == (strB b).toList) = t ∧ decide (strB a = strB b) = t ∧ ((strB a).toList != (strB b).toList) = !t := by
  have e1 : ((strB a).toList == (strB b).toList) = t := by
    rw [← h, Bool.eq_iff_iff, ByteArray.toList_eq, ByteArray.toList_eq]
    simp [strB]
  have e2 : decide (strB a = strB b) = t := by rw [← h]; exact decide_eq_decide.2 strB_inj
  exact ⟨e1, e2, by rw [bne, e1]⟩

set_option maxRecDepth 100000 in
set_option maxHeartbeats 4000000 in
theorem dSame_no (a b : Dk) (As : Option Addr) (ns cs : Nat) (Ap : Option Addr) (np cp : Nat) (al : Int) (as' : Bool) (Bs' : Option Addr) (ms ds : Nat) (Bp : Option Addr) (mp dp : Nat) (bl : Int) (bs' : Bool) (w : World)
    (h : Hid (ns ≠ ms ∨ np ≠ mp ∨ al ≠ bl ∨ as' ≠ bs')) (hs : Hid (sameD a b = false)) :
    Calls Try.prog 23 #[.agg #[.slice As ns cs, .slice Ap np cp, .int .i64 al, .bool as'], .agg #[.slice Bs' ms ds, .slice Bp mp dp, .int .i64 bl, .bool bs']] w fun e w' => e = .returned (.bool (sameD a b)) ∧ Below w.heap.size w w' := by
  have hB := ((Below.refl w.heap.size w).alloc (Nat.le_refl _) (.cells #[.slice As ns cs, .slice Ap np cp, .int .i64 al, .bool as'] 25)).alloc (by simp) (.cells #[.slice Bs' ms ds, .slice Bp mp dp, .int .i64 bl, .bool bs'] 25)
  by_cases h1 : ns = ms
  · subst h1
    by_cases h2 : np = mp
    · subst h2
      by_cases h3 : al = bl
      · subst h3
        have h4 : as' ≠ bs' := by
          rcases h.out with h | h | h | h
          · exact absurd rfl h
          · exact absurd rfl h
          · exact absurd rfl h
          · exact h
        clear h
        rcases as' with _ | _ <;> rcases bs' with _ | _
        · exact absurd rfl h4
        · clear h4
          go_enter Try.func23, Try.ntmps23
          go_wp2
          go_ret
          exact ⟨by rw [hs.out]; rfl, hB⟩
        · clear h4
          go_enter Try.func23, Try.ntmps23
          go_wp2
          go_ret
          exact ⟨by rw [hs.out]; rfl, hB⟩
        · exact absurd rfl h4
      · have e1 : (al != bl) = true := by simpa using h3
        clear h3 h
        go_enter Try.func23, Try.ntmps23
        go_wp2
        go_ret
        exact ⟨by rw [hs.out]; rfl, hB⟩
    · have e1 : ((np : Int) != (mp : Int)) = true := by simp; omega
      have e2 : (np != mp) = true := by simp; omega
      clear h2 h
      go_enter Try.func23, Try.ntmps23
      go_wp2
      go_ret
      exact ⟨by rw [hs.out]; rfl, hB⟩
  · have e1 : ((ns : Int) != (ms : Int)) = true := by simp; omega
    have e2 : (ns != ms) = true := by simp; omega
    clear h1 h
    go_enter Try.func23, Try.ntmps23
    go_wp2
    go_ret
    exact ⟨by rw [hs.out]; rfl, hB⟩

theorem Later.str {W : World} {S : Nat → Prop} {v : Value} {l : Bs} (h : BsAt W S v l) (u : Later W) : (convert 35 9 v).run Try.prog u.w = .ok (.string (strB l)) u.w := (h.keep (Keeps.of u.below)).str
set_option maxRecDepth 100000 in
set_option maxHeartbeats 8000000 in
theorem dSame_go (a b : Dk) (As : Option Addr) (ns cs : Nat) (Ap : Option Addr) (np cp : Nat) (al : Int) (as' : Bool) (Bs' : Option Addr) (ds : Nat) (Bp : Option Addr) (dp : Nat) (S T : Nat → Prop) (w : World)
    (hA : Hid (DkAt w S (.slice As ns cs) (.slice Ap np cp) a)) (hE : Hid (DkAt w T (.slice Bs' ns ds) (.slice Bp np dp) b)) (hsb : ns ≤ 9223372036854775807) (hpb : np ≤ 9223372036854775807)
    (h1 : Hid (a.sectors.length = ns)) (h2 : Hid (b.sectors.length = ns)) (h3 : Hid (a.pending.length = np)) (h4 : Hid (b.pending.length = np)) (h5 : Hid (a.left = b.left)) (h6 : Hid (a.stopped = b.stopped)) :
    Calls Try.prog 23 #[.agg #[.slice As ns cs, .slice Ap np cp, .int .i64 al, .bool as'], .agg #[.slice Bs' ns ds, .slice Bp np dp, .int .i64 al, .bool as']] w fun e w' => e = .returned (.bool (sameD a b)) ∧ Below w.heap.size w w' := by
  have hB := ((Below.refl w.heap.size w).alloc (Nat.le_refl _) (.cells #[.slice As ns cs, .slice Ap np cp, .int .i64 al, .bool as'] 25)).alloc (by simp) (.cells #[.slice Bs' ns ds, .slice Bp np dp, .int .i64 al, .bool as'] 25)
  have X := (Box.new w [.slice As ns cs, .slice Ap np cp, .int .i64 al, .bool as'] 25).alloc (.cells #[.slice Bs' ns ds, .slice Bp np dp, .int .i64 al, .bool as'] 25)
  have Y := Box.newAt (w := w.alloc (.cells #[.slice As ns cs, .slice Ap np cp, .int .i64 al, .bool as'] 25)) (n := w.heap.size + 1) [.slice Bs' ns ds, .slice Bp np dp, .int .i64 al, .bool as'] 25 (by simp)
  have NE : Hid (∀ i : Nat, a.sectors.getD i [] ≠ b.sectors.getD i [] → Hid (sameD a b = false)) := by
    intro i hi
    rw [Hid, Bool.eq_false_iff]
    intro h
    have := sameD_eq.1 h
    subst this
    exact hi rfl
  have NE2 : Hid (∀ i : Nat, a.pending.getD i Wr.zero ≠ b.pending.getD i Wr.zero → Hid (sameD a b = false)) := by
    intro i hi
    rw [Hid, Bool.eq_false_iff]
    intro h
    have := sameD_eq.1 h
    subst this
    exact hi rfl
  go_enter Try.func23, Try.ntmps23
  go_wp2_with fail
  generalize (w.alloc (.cells #[.slice As ns cs, .slice Ap np cp, .int .i64 al, .bool as'] 25)).alloc (.cells #[.slice Bs' ns ds, .slice Bp np dp, .int .i64 al, .bool as'] 25) = W at hB X Y ⊢
  go_loopw [5] (fun i wr => ∃ k : Nat, k ≤ ns ∧ i = .int .i64 k ∧ Below w.heap.size w wr ∧ Box wr w.heap.size [.slice As ns cs, .slice Ap np cp, .int .i64 al, .bool as'] ∧ Box wr (w.heap.size + 1) [.slice Bs' ns ds, .slice Bp np dp, .int .i64 al, .bool as'] ∧ Hid (∀ j, j < k → a.sectors.getD j [] = b.sectors.getD j [])) (fun i _ => ns - (intOf i).toNat)
  case atStart => exact ⟨0, by omega, rfl, hB, X, Y, fun j hj => by omega⟩
  case round =>
    clear hB X Y
    obtain ⟨k, hk, rfl, hb, X, Y, hall⟩ := hrel
    have x0 : wr.cell? ⟨w.heap.size, 0, none⟩ = some (.slice As ns cs) := X.cell 0
    have y0 : wr.cell? ⟨w.heap.size + 1, 0, none⟩ = some (.slice Bs' ns ds) := Y.cell 0
    have xz := X.lt
    have yz := Y.lt
    by_cases hlt : k < ns
    · have hka : k < a.sectors.length := by rw [h1.out]; exact hlt
      have hkb : k < b.sectors.length := by rw [h2.out]; exact hlt
      obtain ⟨pb, po, V, rfl, hSp, hpb', q0, hV⟩ := hA.out.sectors.row hka
      obtain ⟨rb, ro, U, rfl, hSr, hrb', r0, hU⟩ := hE.out.sectors.row hkb
      have q0 := (hb.cell hpb').trans q0
      have r0 := (hb.cell hrb').trans r0
      have hpz := Nat.lt_of_lt_of_le hpb' hb.size
      have hrz := Nat.lt_of_lt_of_le hrb' hb.size
      have hV := hV.keep (Keeps.of hb)
      have hU := hU.keep (Keeps.of hb)
      have ea : a.sectors.getD k [] = a.sectors[k] := by rw [List.getD_eq_getElem?_getD, List.getElem?_eq_getElem hka]; rfl
      have eb : b.sectors.getD k [] = b.sectors[k] := by rw [List.getD_eq_getElem?_getD, List.getElem?_eq_getElem hkb]; rfl
      obtain ⟨y, hy⟩ : ∃ y, a.sectors[k] = y := ⟨_, rfl⟩
      obtain ⟨z, hz⟩ : ∃ z, b.sectors[k] = z := ⟨_, rfl⟩
      rw [hy] at hV ea
      rw [hz] at hU eb
      have HEA := Lib.hid ea
      have HEB := Lib.hid eb
      obtain ⟨t, ht⟩ : ∃ t, decide (y = z) = t := ⟨_, rfl⟩
      have HT := Lib.hid ht
      obtain ⟨s1, s2, s3⟩ := str_cmp ht
      have cv := Later.str hV
      have cu := Later.str hU
      obtain ⟨Av, cv', rfl, _⟩ := hV.form
      obtain ⟨Au, cu', rfl, _⟩ := hU.form
      generalize List.length y = ny at cv q0
      generalize List.length z = nz at cu r0
      generalize strB y = sy at s1 s2 s3 cv
      generalize strB z = sz at s1 s2 s3 cu
      clear ea eb ht hy hz hV hU hSp hSr
      have i1 : (0 : Int) ≤ (k : Int) := by omega
      have i2 : (k : Int) < (ns : Int) := by omega
      have j0 : ∀ u : Later wr, u.w.cell? ⟨w.heap.size, 0, none⟩ = some (.slice (some ⟨pb, po, none⟩) ns cs) := Later.cell x0 xz
      have j1 : ∀ u : Later wr, u.w.cell? ⟨w.heap.size + 1, 0, none⟩ = some (.slice (some ⟨rb, ro, none⟩) ns ds) := Later.cell y0 yz
      have j2 : ∀ u : Later wr, u.w.cell? ⟨pb, po + k, none⟩ = some (.slice Av ny cv') := Later.cell q0 hpz
      have j3 : ∀ u : Later wr, u.w.cell? ⟨rb, ro + k, none⟩ = some (.slice Au nz cu') := Later.cell r0 hrz
      clear q0 r0
      go_wp2_with fail
      refine wp_region_later (by kernel_rfl) (by kernel_rfl) ?_
      repeat (go_big_quiet_step (fail))
      refine wpQuiet_nil ?_
      intro _ hw'
      obtain ⟨yq, hw''⟩ := hw'
      subst hw''
      clear j0 j1 j2 j3 cv cu x0 y0
      obtain ⟨w3, hz3, hb3⟩ : ∃ z, yq.w = z ∧ Below wr.heap.size wr z := ⟨_, rfl, yq.below⟩
      rw [hz3]
      clear hz3
      have X := X.later hb3
      have Y := Y.later hb3
      have hb := hb.trans (hb3.mono hb.size)
      clear hb3 xz yz
      rcases t with _ | _
      · have HF := NE.out k (by rw [HEA.out, HEB.out]; exact of_decide_eq_false HT.out)
        go_wp2
        go_ret
        exact ⟨by rw [HF.out]; rfl, hb⟩
      · have hyz : Hid (y = z) := Lib.hid (of_decide_eq_true HT.out)
        go_wp2
        refine ⟨⟨k + 1, by omega, by go_num, hb, X, Y, fun j hj => ?_⟩, by simp [intOf]; omega⟩
        rcases Nat.lt_or_ge j k with h | h
        · exact hall.out j h
        · obtain rfl : j = k := by omega
          rw [HEA.out, HEB.out]
          exact hyz.out
    · obtain rfl : k = ns := by omega
      clear xz yz
      have hsec : Hid (a.sectors = b.sectors) := by
        apply List.ext_getElem?
        intro i
        rcases Nat.lt_or_ge i k with hi | hi
        · have := hall.out i hi
          rw [List.getD_eq_getElem?_getD, List.getD_eq_getElem?_getD, List.getElem?_eq_getElem (by rw [h1.out]; exact hi), List.getElem?_eq_getElem (by rw [h2.out]; exact hi)] at this
          rw [List.getElem?_eq_getElem (by rw [h1.out]; exact hi), List.getElem?_eq_getElem (by rw [h2.out]; exact hi)]
          exact congrArg some this
        · rw [List.getElem?_eq_none (by rw [h1.out]; exact hi), List.getElem?_eq_none (by rw [h2.out]; exact hi)]
      go_wp2_with fail
      clear x0 y0
      go_loopw [6] (fun i wr => ∃ q : Nat, q ≤ np ∧ i = .int .i64 q ∧ Below w.heap.size w wr ∧ Box wr w.heap.size [.slice As k cs, .slice Ap np cp, .int .i64 al, .bool as'] ∧ Box wr (w.heap.size + 1) [.slice Bs' k ds, .slice Bp np dp, .int .i64 al, .bool as'] ∧ Hid (∀ j, j < q → a.pending.getD j Wr.zero = b.pending.getD j Wr.zero)) (fun i _ => np - (intOf i).toNat)
      case atStart => exact ⟨0, by omega, rfl, hb, X, Y, fun j hj => by omega⟩
      case round =>
        clear hb X Y
        obtain ⟨q, hq, rfl, hb, X, Y, hall2⟩ := hrel
        have x0 : wr.cell? ⟨w.heap.size, 1, none⟩ = some (.slice Ap np cp) := X.cell 1
        have y0 : wr.cell? ⟨w.heap.size + 1, 1, none⟩ = some (.slice Bp np dp) := Y.cell 1
        have xz := X.lt
        have yz := Y.lt
        by_cases hlt : q < np
        · have hka : q < a.pending.length := by rw [h3.out]; exact hlt
          have hkb : q < b.pending.length := by rw [h4.out]; exact hlt
          obtain ⟨pb, po, V, rfl, hSp, hpb', q0, q1, hV⟩ := hA.out.pending.wr hka
          obtain ⟨rb, ro, U, rfl, hSr, hrb', r0, r1, hU⟩ := hE.out.pending.wr hkb
          have q0 := (hb.cell hpb').trans q0
          have r0 := (hb.cell hrb').trans r0
          have q1 := (hb.cell hpb').trans q1
          have r1 := (hb.cell hrb').trans r1
          have hpz := Nat.lt_of_lt_of_le hpb' hb.size
          have hrz := Nat.lt_of_lt_of_le hrb' hb.size
          have hV := hV.keep (Keeps.of hb)
          have hU := hU.keep (Keeps.of hb)
          have ea : a.pending.getD q Wr.zero = a.pending[q] := by rw [List.getD_eq_getElem?_getD, List.getElem?_eq_getElem hka]; rfl
          have eb : b.pending.getD q Wr.zero = b.pending[q] := by rw [List.getD_eq_getElem?_getD, List.getElem?_eq_getElem hkb]; rfl
          obtain ⟨⟨xa, y⟩, hy⟩ : ∃ y, a.pending[q] = y := ⟨_, rfl⟩
          obtain ⟨⟨ya, z⟩, hz⟩ : ∃ z, b.pending[q] = z := ⟨_, rfl⟩
          rw [hy] at hV ea q0
          rw [hz] at hU eb r0
          dsimp only at hV hU q0 r0
          have HEA := Lib.hid ea
          have HEB := Lib.hid eb
          obtain ⟨t, ht⟩ : ∃ t, decide (y = z) = t := ⟨_, rfl⟩
          have HT := Lib.hid ht
          obtain ⟨s1, s2, s3⟩ := str_cmp ht
          have cv := Later.str hV
          have cu := Later.str hU
          obtain ⟨Av, cv', rfl, _⟩ := hV.form
          obtain ⟨Au, cu', rfl, _⟩ := hU.form
          generalize List.length y = ny at cv q1
          generalize List.length z = nz at cu r1
          generalize strB y = sy at s1 s2 s3 cv
          generalize strB z = sz at s1 s2 s3 cu
          clear ea eb ht hy hz hV hU hSp hSr
          have i1 : (0 : Int) ≤ (q : Int) := by omega
          have i2 : (q : Int) < (np : Int) := by omega
          have j0 : ∀ u : Later wr, u.w.cell? ⟨w.heap.size, 1, none⟩ = some (.slice (some ⟨pb, po, none⟩) np cp) := Later.cell x0 xz
          have j1 : ∀ u : Later wr, u.w.cell? ⟨w.heap.size + 1, 1, none⟩ = some (.slice (some ⟨rb, ro, none⟩) np dp) := Later.cell y0 yz
          have j2 : ∀ u : Later wr, u.w.cell? ⟨pb, po + q * 2, none⟩ = some (.int .i64 xa) := Later.cell q0 hpz
          have j3 : ∀ u : Later wr, u.w.cell? ⟨rb, ro + q * 2, none⟩ = some (.int .i64 ya) := Later.cell r0 hrz
          have j4 : ∀ u : Later wr, u.w.cell? ⟨pb, po + q * 2 + 1, none⟩ = some (.slice Av ny cv') := Later.cell q1 hpz
          have j5 : ∀ u : Later wr, u.w.cell? ⟨rb, ro + q * 2 + 1, none⟩ = some (.slice Au nz cu') := Later.cell r1 hrz
          clear q0 r0 q1 r1
          rcases hxy : (xa != ya) with _ | _
          · have hxe : Hid (xa = ya) := Lib.hid (by simpa using hxy)
            go_wp2_with fail
            refine wp_region_later (by kernel_rfl) (by kernel_rfl) ?_
            repeat (go_big_quiet_step (fail))
            refine wpQuiet_nil ?_
            intro _ hw'
            obtain ⟨yq, hw''⟩ := hw'
            subst hw''
            clear j0 j1 j2 j3 j4 j5 cv cu x0 y0
            obtain ⟨w3, hz3, hb3⟩ : ∃ z, yq.w = z ∧ Below wr.heap.size wr z := ⟨_, rfl, yq.below⟩
            rw [hz3]
            clear hz3
            have X := X.later hb3
            have Y := Y.later hb3
            have hb := hb.trans (hb3.mono hb.size)
            clear hb3 xz yz
            rcases t with _ | _
            · have HF := NE2.out q (by rw [HEA.out, HEB.out]; intro h; injection h with _ h; exact of_decide_eq_false HT.out h)
              go_wp2
              go_ret
              exact ⟨by rw [HF.out]; rfl, hb⟩
            · have hyz : Hid (y = z) := Lib.hid (of_decide_eq_true HT.out)
              go_wp2
              refine ⟨⟨q + 1, by omega, by go_num, hb, X, Y, fun j hj => ?_⟩, by simp [intOf]; omega⟩
              rcases Nat.lt_or_ge j q with h | h
              · exact hall2.out j h
              · obtain rfl : j = q := by omega
                rw [HEA.out, HEB.out, hyz.out, hxe.out]
          · have hxe : Hid (xa ≠ ya) := Lib.hid (by simpa using hxy)
            go_wp2_with fail
            refine wp_region_later (by kernel_rfl) (by kernel_rfl) ?_
            repeat (go_big_quiet_step (fail))
            refine wpQuiet_nil ?_
            intro _ hw'
            obtain ⟨yq, hw''⟩ := hw'
            subst hw''
            clear j0 j1 j2 j3 j4 j5 cv cu x0 y0
            obtain ⟨w3, hz3, hb3⟩ : ∃ z, yq.w = z ∧ Below wr.heap.size wr z := ⟨_, rfl, yq.below⟩
            rw [hz3]
            clear hz3
            have X := X.later hb3
            have Y := Y.later hb3
            have hb := hb.trans (hb3.mono hb.size)
            clear hb3 xz yz
            have HF := NE2.out q (by rw [HEA.out, HEB.out]; intro h; injection h with h _; exact hxe.out h)
            go_wp2
            go_ret
            exact ⟨by rw [HF.out]; rfl, hb⟩
        · obtain rfl : q = np := by omega
          have hT : Hid (sameD a b = true) := Lib.hid (sameD_eq.2 (by
            have hpen : a.pending = b.pending := by
              apply List.ext_getElem?
              intro i
              rcases Nat.lt_or_ge i q with hi | hi
              · have := hall2.out i hi
                rw [List.getD_eq_getElem?_getD, List.getD_eq_getElem?_getD, List.getElem?_eq_getElem (by rw [h3.out]; exact hi), List.getElem?_eq_getElem (by rw [h4.out]; exact hi)] at this
                rw [List.getElem?_eq_getElem (by rw [h3.out]; exact hi), List.getElem?_eq_getElem (by rw [h4.out]; exact hi)]
                exact congrArg some this
              · rw [List.getElem?_eq_none (by rw [h3.out]; exact hi), List.getElem?_eq_none (by rw [h4.out]; exact hi)]
            obtain ⟨a1, a2, a3, a4⟩ := a
            obtain ⟨b1, b2, b3, b4⟩ := b
            have e1 := hsec.out
            have e2 := h5.out
            have e3 := h6.out
            dsimp only at e1 e2 e3 hpen
            subst e1 e2 e3 hpen
            rfl))
          go_wp2
          go_ret
          exact ⟨by rw [hT.out]; rfl, hb⟩

theorem dSame_any (a b : Dk) (Va Vb Ua Ub : Value) (S T : Nat → Prop) (w : World) (hA : DkAt w S Va Vb a) (hE : DkAt w T Ua Ub b) :
    Calls Try.prog 23 #[a.v Va Vb, b.v Ua Ub] w fun e w' => e = .returned (.bool (sameD a b)) ∧ Below w.heap.size w w' := by
  obtain ⟨As, cs, rfl, m1⟩ := hA.sectors.form
  obtain ⟨Ap, cp, rfl, m2⟩ := hA.pending.form
  obtain ⟨Es, ds, rfl, m3⟩ := hE.sectors.form
  obtain ⟨Ep, dp, rfl, m4⟩ := hE.pending.form
  unfold maxLen at m1 m2
  by_cases h : a.sectors.length = b.sectors.length ∧ a.pending.length = b.pending.length ∧ a.left = b.left ∧ a.stopped = b.stopped
  · obtain ⟨h1, h2, h3, h4⟩ := h
    have := dSame_go a b As a.sectors.length cs Ap a.pending.length cp a.left a.stopped Es ds Ep dp S T w hA (by rw [h1, h2]; exact hE) (by omega) (by omega) rfl h1.symm rfl h2.symm h3 h4
    rw [h1, h2] at this
    show Calls _ _ #[.agg #[.slice As a.sectors.length cs, .slice Ap a.pending.length cp, .int .i64 a.left, .bool a.stopped], .agg #[.slice Es b.sectors.length ds, .slice Ep b.pending.length dp, .int .i64 b.left, .bool b.stopped]] w _
    rw [h1, h2, ← h3, ← h4]
    exact this
  · have hs : sameD a b = false := by
      rw [Bool.eq_false_iff]
      intro h2
      have := sameD_eq.1 h2
      subst this
      exact h ⟨rfl, rfl, rfl, rfl⟩
    refine dSame_no a b As _ cs Ap _ cp _ _ Es _ ds Ep _ dp _ _ w ?_ hs
    rw [Hid]
    by_cases h1 : a.sectors.length = b.sectors.length
    · by_cases h2 : a.pending.length = b.pending.length
      · by_cases h3 : a.left = b.left
        · exact .inr (.inr (.inr (fun h4 => h ⟨h1, h2, h3, h4⟩)))
        · exact .inr (.inr (.inl h3))
      · exact .inr (.inl h2)
    · exact .inl h1

end Go.Proofs.Ythlidhfahaalgaa

/-
  Contract of Few of the reference of chapter 4. No condition.
-/
namespace Go.Proofs.Ythlidhfahaalgaa
open Go.RowKit

theorem sumB_take {l : List Bs} {k : Nat} (hk : k < l.length) : sumB (l.take (k + 1)) = sumB (l.take k) + ((l[k]).length + 1) := by
  rw [List.take_succ_eq_append_getElem hk]
  generalize l.take k = m
  induction m with
  | nil => simp [sumB]
  | cons x m ih => simp only [List.cons_append, sumB, List.foldr_cons] at ih ⊢; omega
theorem sumB_le {l : List Bs} {k : Nat} : sumB (l.take k) ≤ sumB l := by
  induction l generalizing k with
  | nil => simp [sumB]
  | cons x l ih =>
    rcases k with _ | k
    · simp [sumB]
    · have := ih (k := k)
      simp only [List.take_succ_cons, sumB, List.foldr_cons] at this ⊢
      omega
theorem sumW_take {l : List Wr} {k : Nat} (hk : k < l.length) : sumW (l.take (k + 1)) = sumW (l.take k) + ((l[k]).data.length + 1) := by
  rw [List.take_succ_eq_append_getElem hk]
  generalize l.take k = m
  induction m with
  | nil => simp [sumW]
  | cons x m ih => simp only [List.cons_append, sumW, List.foldr_cons] at ih ⊢; omega
theorem sumW_le {l : List Wr} {k : Nat} : sumW (l.take k) ≤ sumW l := by
  induction l generalizing k with
  | nil => simp [sumW]
  | cons x l ih =>
    rcases k with _ | k
    · simp [sumW]
    · have := ih (k := k)
      simp only [List.take_succ_cons, sumW, List.foldr_cons] at this ⊢
      omega
/-- The byte slices are no longer than memory lets them be. -/
def Dk.small (d : Dk) : Prop := (∀ x ∈ d.sectors, x.length ≤ 140737488351232) ∧ ∀ x ∈ d.pending, x.data.length ≤ 140737488351232
theorem few_len {d : Dk} (h : fewB d = true) : sumB d.sectors + sumW d.pending ≤ 9000 := of_decide_eq_true h
end Go.Proofs.Ythlidhfahaalgaa

/-
  Contract of New of the reference of chapter 4. (Printed by gen_du.py.)
-/
namespace Go.Proofs.Ythlidhfahaalgaa
open Go.RowKit
attribute [local go_sem ↓ high] app_named cop_named

/-- Blocks from base on, but for the row's own. -/
def Side (base : Nat) (v : Value) : Nat → Prop := fun b => base ≤ b ∧ some b ≠ v.ownBlock
theorem run_ownR {w : World} {base bb : Nat} {v U : Value} {l : List Bs} {x : Bs} (ho : OwnRw w base (Side base v) v l) (hX : Box w bb [U]) (hU : BsAt w (Side base v) U x) (hbase : base ≤ w.heap.size) (hl : l.length ≤ 1048576) :
    ∃ v' w', (appF #[22, 22] 22 #[v, .slice (some ⟨bb, 0, none⟩) 1 1]).run Try.prog w = .ok v' w' ∧ OwnRw w' base (Side base v') v' (l ++ [x]) ∧ Below base w w' := by
  obtain ⟨i, E⟩ := elem_rw
  obtain ⟨xs, ho, hb⟩ := ho
  have hxl : xs.length = l.length := by simpa using ho.1
  have hrow : ∀ k, v.ownBlock = some k → base ≤ k := by
    intro k hk
    rcases ho.2 with ⟨rfl, _⟩ | ⟨g, cap, cur, rfl, hbg, _⟩
    · cases hk
    · cases hk; exact hbg
  obtain ⟨v', w', hr, ho', hg, _, hown⟩ := run_append_own_at (P := Try.prog) (w := w) base 22 22 35 i (.slice none 0 0) 1 24 E.ht E.hi E.hz E.hsize E.hby E.hzs E.hsz v l.length xs ho ⟨bb, 0, none⟩ 1 1 [U] rfl (fun j u hu => by
    obtain rfl : j = 0 := by
      have := (List.getElem?_eq_some_iff.1 hu).1
      simpa using this
    rw [add_at, Nat.zero_add, hX.cell 0]
    exact hu) (fun u hu => by rw [List.mem_singleton.1 hu]; exact bsAt_one hU) (by simp only [maxLen]; omega) (by omega) hbase
  have key : ∀ {y : Bs} {u : Value}, BsAt w (Side base v) u y → BsAt w' (Side base v') u y := by
    intro y u h
    have h1 : BsAt w (fun b => Side base v b ∧ some b ≠ v'.ownBlock) u y := h.weak fun b hb hl => ⟨hb, by
      rcases hown with e | e
      · rw [e]; exact hb.2
      · rw [e]; intro e2; injection e2 with e2; omega⟩
    exact (h1.keep (Keeps.grown hg fun k hk hS => hS.1.2 hk.symm)).weak fun b hb _ => ⟨hb.1.1, hb.2⟩
  refine ⟨v', w', hr, ⟨xs ++ [U], by rw [List.length_append]; exact ho', fun j y u hy hu => ?_⟩, (Below.refl base w).grown hg hbase (fun k hk => hrow k hk)⟩
  rcases Nat.lt_or_ge j l.length with hj | hj
  · rw [List.getElem?_append_left hj] at hy
    rw [List.getElem?_append_left (by omega)] at hu
    exact key (hb j y u hy hu)
  · rw [List.getElem?_append_right hj] at hy
    rw [List.getElem?_append_right (by omega), hxl] at hu
    have h0 : j - l.length = 0 := by
      rcases Nat.eq_zero_or_pos (j - l.length) with h0 | h0
      · exact h0
      · rw [List.getElem?_eq_none (by simp; omega)] at hy; cases hy
    rw [h0] at hy hu
    obtain rfl : x = y := by simpa using hy
    obtain rfl : U = u := by simpa using hu
    exact key hU
theorem OwnRw.form {w : World} {base : Nat} {S : Nat → Prop} {v : Value} {l : List Bs} (h : OwnRw w base S v l) : ∃ A c, v = .slice A l.length c := by
  obtain ⟨xs, ho, _⟩ := h
  rcases ho.2 with ⟨h1, h2⟩ | ⟨g, cap, cur, hv, _⟩
  · exact ⟨none, 0, by rw [h1, h2]⟩
  · exact ⟨_, _, hv⟩
end Go.Proofs.Ythlidhfahaalgaa
