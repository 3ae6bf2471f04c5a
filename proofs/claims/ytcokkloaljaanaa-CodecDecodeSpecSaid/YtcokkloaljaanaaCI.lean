/-
  Contract of Same of the reference. No condition.
-/
import Derived.Test.YtcokkloaljaanaaCH
namespace Go.Proofs.Ytcokkloaljaanaa
open Go.RowKit

def SameR (d : Nat) : Prop := ∀ (x y : Val) (L M : Value) (w : World), ValsAt w w.heap.size d L x.elems → ValsAt w w.heap.size d M y.elems →
    Calls Try.prog 20 #[x.v L, y.v M] w fun e w' => e = .returned (.bool (x.same y)) ∧ Below w.heap.size w w'
theorem same_len {x y : Val} (h : x.elems.length ≠ y.elems.length) : x.same y = false := same_ne (by rintro rfl; exact h rfl)

set_option maxRecDepth 100000 in
set_option maxHeartbeats 4000000 in
theorem rSame_loop (d : Nat) (ih : ∀ d', d' < d → SameR d') (xk xn : Int) (sb : ByteArray) (l m : List Val) (A B : Option Addr) (n c c2 : Nat) (w : World) (hV : Hid (ValsAt w w.heap.size d (.slice A n c) l)) (hW : Hid (ValsAt w w.heap.size d (.slice B n c2) m)) (hn1 : Hid (l.length = n)) (hn2 : Hid (m.length = n)) (hm : n ≤ 9223372036854775807) (rb : Bool) (hr : Hid (sameL l m = rb)) :
    Calls Try.prog 20 #[.agg #[.int .i64 xk, .int .i64 xn, .string sb, .slice A n c], .agg #[.int .i64 xk, .int .i64 xn, .string sb, .slice B n c2]] w fun e w' => e = .returned (.bool rb) ∧ Below w.heap.size w w' := by
  have IH := Lib.hid ih
  clear ih
  have hB := ((Below.refl w.heap.size w).alloc (Nat.le_refl _) (.cells #[.int .i64 xk, .int .i64 xn, .string sb, .slice A n c] 24)).alloc (by simp) (.cells #[.int .i64 xk, .int .i64 xn, .string sb, .slice B n c2] 24)
  have X := (Box.new w [.int .i64 xk, .int .i64 xn, .string sb, .slice A n c] 24).alloc (.cells #[.int .i64 xk, .int .i64 xn, .string sb, .slice B n c2] 24)
  have Y := Box.newAt (w := w.alloc (.cells #[.int .i64 xk, .int .i64 xn, .string sb, .slice A n c] 24)) (n := w.heap.size + 1) [.int .i64 xk, .int .i64 xn, .string sb, .slice B n c2] 24 (by simp)
  go_enter Try.func20, Try.ntmps20
  go_wp2
  go_loopw [5] (fun i wr => ∃ k : Nat, k ≤ n ∧ i = .int .i64 k ∧ Hid (SamePre l m k) ∧ Below w.heap.size w wr ∧ Box wr w.heap.size [.int .i64 xk, .int .i64 xn, .string sb, .slice A n c] ∧ Box wr (w.heap.size + 1) [.int .i64 xk, .int .i64 xn, .string sb, .slice B n c2]) (fun i _ => n - (intOf i).toNat)
  case atStart => exact ⟨0, Nat.zero_le _, rfl, Lib.hid (SamePre.zero l m), hB, X, Y⟩
  case round =>
    clear hB X Y
    obtain ⟨k, hk, rfl, hp, hB, X, Y⟩ := hrel
    by_cases hlt : k < n
    · have hl1 : k < l.length := by rw [hn1.out]; exact hlt
      have hl2 : k < m.length := by rw [hn2.out]; exact hlt
      obtain ⟨d', b, off, V, rfl, rfl, hb, c0, c1, c2', c3, hE⟩ := hV.out.elem hl1
      obtain ⟨d'', b2, off2, V2, e2, rfl, hb2, e0, e1, e2', e3, hE2⟩ := hW.out.elem hl2
      obtain rfl : d'' = d' := by omega
      have hsn : (l[k]).same m[k] = true → SamePre l m (k + 1) := hp.out.snoc hl1 hl2
      have hno : (l[k]).same m[k] = false → sameL l m = false := sameL_at hl1 hl2
      generalize l[k] = x at c0 c1 c2' c3 hE hsn hno
      generalize m[k] = y at e0 e1 e2' e3 hE2 hsn hno
      obtain ⟨A', c', rfl, _⟩ := hE.form
      obtain ⟨B', f', rfl, _⟩ := hE2.form
      have hbw1 := Nat.lt_of_lt_of_le hb hB.size
      have hbw2 := Nat.lt_of_lt_of_le hb2 hB.size
      replace c0 := Later.cell ((hB.cell (p := ⟨b, off + k * 4, none⟩) hb).trans c0) hbw1
      replace c1 := Later.cell ((hB.cell (p := ⟨b, off + k * 4 + 1, none⟩) hb).trans c1) hbw1
      replace c2' := Later.cell ((hB.cell (p := ⟨b, off + k * 4 + 2, none⟩) hb).trans c2') hbw1
      replace c3 := Later.cell ((hB.cell (p := ⟨b, off + k * 4 + 3, none⟩) hb).trans c3) hbw1
      replace e0 := Later.cell ((hB.cell (p := ⟨b2, off2 + k * 4, none⟩) hb2).trans e0) hbw2
      replace e1 := Later.cell ((hB.cell (p := ⟨b2, off2 + k * 4 + 1, none⟩) hb2).trans e1) hbw2
      replace e2' := Later.cell ((hB.cell (p := ⟨b2, off2 + k * 4 + 2, none⟩) hb2).trans e2') hbw2
      replace e3 := Later.cell ((hB.cell (p := ⟨b2, off2 + k * 4 + 3, none⟩) hb2).trans e3) hbw2
      have x3 : wr.cell? ⟨w.heap.size, 3, none⟩ = some (.slice (some ⟨b, off, none⟩) n c) := X.cell 3
      have y3 : wr.cell? ⟨w.heap.size + 1, 3, none⟩ = some (.slice (some ⟨b2, off2, none⟩) n c2) := Y.cell 3
      have lx3 := Later.cell x3 X.lt
      have ly3 := Later.cell y3 Y.lt
      have xz := X.lt
      obtain ⟨q, hq⟩ : ∃ q, x.same y = q := ⟨_, rfl⟩
      rw [hq] at hsn hno
      have HC : Hid (∀ zz : Later wr, Calls Try.prog 20 #[x.v (.slice A' x.elems.length c'), y.v (.slice B' y.elems.length f')] zz.w fun e w' => e = .returned (.bool (x.same y)) ∧ Below zz.w.heap.size zz.w w') :=
        Lib.hid fun zz => IH.out d'' (by omega) x y _ _ _ (((hE.below hB).more hB.size).later zz.below) (((hE2.below hB).more hB.size).later zz.below)
      rw [hq] at HC
      have HS := Lib.hid hsn
      have HO := Lib.hid hno
      clear hE hE2 hq hsn hno e2
      dsimp only [Val.v] at HC
      generalize x.kind = ak, x.num = an, strB x.str = as', x.elems.length = al at c0 c1 c2' c3 HC
      generalize y.kind = bk, y.num = bn, strB y.str = bs, y.elems.length = bl at e0 e1 e2' e3 HC
      have k0 : (0 : Int) ≤ (k : Int) := by omega
      have k1 : (k : Int) < (n : Int) := by omega
      go_wp2_with fail
      refine wp_region_later (by kernel_rfl) (by kernel_rfl) ?_
      repeat (go_big_quiet_step ((go_at_call 20; with_reducible exact Later.call _ (HC.out _))))
      refine wpQuiet_nil ?_
      intro _ hw'
      obtain ⟨yq, hw''⟩ := hw'
      subst hw''
      clear c0 c1 c2' c3 e0 e1 e2' e3 HC lx3 ly3 x3 y3
      obtain ⟨wq, hz, hbq⟩ : ∃ z, yq.w = z ∧ Below wr.heap.size wr z := ⟨_, rfl, yq.below⟩
      rw [hz]
      clear hz
      have hB' := hB.trans (hbq.mono hB.size)
      have X' := X.later hbq
      have Y' := Y.later hbq
      clear hB X Y hbq
      cases q
      · have HF := Lib.hid (hr.out.symm.trans (HO.out rfl))
        go_wp2
        go_ret
        exact ⟨by rw [HF.out]; rfl, hB'⟩
      · have HK := Lib.hid (HS.out rfl)
        go_wp2
        exact ⟨⟨k + 1, by omega, by go_num, HK, hB', X', Y'⟩, by simp [intOf]; omega⟩
    · obtain rfl : k = n := by omega
      have x3 : wr.cell? ⟨w.heap.size, 3, none⟩ = some (.slice A k c) := X.cell 3
      have xz := X.lt
      have HF := Lib.hid (hr.out.symm.trans (hp.out.full hn1.out hn2.out))
      go_wp2
      go_ret
      exact ⟨by rw [HF.out]; rfl, hB⟩

set_option maxRecDepth 100000 in
set_option maxHeartbeats 4000000 in
theorem rSame_step (d : Nat) (ih : ∀ d', d' < d → SameR d') : SameR d := by
  intro x y L M w hV hW
  obtain ⟨A, c, rfl, hm1⟩ := hV.form
  obtain ⟨B, c2, rfl, hm2⟩ := hW.form
  have hst := (((Below.refl w.heap.size w).alloc (Nat.le_refl _) (.cells #[.int .i64 x.kind, .int .i64 x.num, .string (strB x.str), .slice A x.elems.length c] 24)).alloc (by simp) (.cells #[.int .i64 y.kind, .int .i64 y.num, .string (strB y.str), .slice B y.elems.length c2] 24))
  have ST := Lib.hid hst
  obtain ⟨r, hr⟩ : ∃ r, x.same y = r := ⟨_, rfl⟩
  have h1 := same_kind (x := x) (y := y)
  have h2 := same_num (x := x) (y := y)
  have h3 := same_str (x := x) (y := y)
  have h5 := same_len (x := x) (y := y)
  by_cases e0 : x.kind = y.kind ∧ x.num = y.num ∧ x.str = y.str ∧ x.elems.length = y.elems.length
  · obtain ⟨e1, e2, e3, e4⟩ := e0
    rw [← e4] at hW
    dsimp only [Val.v]
    rw [← e1, ← e2, ← e3, ← e4, hr]
    exact rSame_loop d ih x.kind x.num (strB x.str) x.elems y.elems A B _ c c2 w hV hW rfl e4.symm (by unfold maxLen at hm1; omega) r (Lib.hid ((same_elems e1 e2 e3).symm.trans hr))
  rw [hr] at h1 h2 h3 h5 ⊢
  clear hV hW hst ih hr
  dsimp only [Val.v] at ST ⊢
  have hsi : x.str = y.str ↔ strB x.str = strB y.str := strB_inj.symm
  unfold maxLen at hm1 hm2
  generalize x.kind = xk, x.num = xn, x.str = xs, x.elems.length = xl at ST h1 h2 h3 h5 hsi e0 hm1 ⊢
  generalize y.kind = yk, y.num = yn, y.str = ys, y.elems.length = yl at ST h1 h2 h3 h5 hsi e0 hm2 ⊢
  by_cases e1 : xk = yk
  · by_cases e2 : xn = yn
    · by_cases e3 : xs = ys
      · have e4 : ¬ xl = yl := fun h => e0 ⟨e1, e2, e3, h⟩
        have e5 := h5 e4
        subst e1 e2 e3 e5
        have e6 : ((xl : Int) != (yl : Int)) = true := by simp; omega
        clear h1 h2 h3 h5 hsi e0
        generalize strB xs = sb at ST ⊢
        go_enter Try.func20, Try.ntmps20
        go_wp2
        all_goals
          go_ret
          exact ⟨rfl, ST.out⟩
      · have e4 := h3 e3
        subst e1 e2 e4
        have e6 : ¬ (strB xs).toList = (strB ys).toList := by rw [strB_toList, strB_toList]; exact e3
        clear h1 h2 h3 h5 hsi e0
        generalize strB xs = sb, strB ys = sc at ST e6 ⊢
        go_enter Try.func20, Try.ntmps20
        go_wp2
        all_goals
          go_ret
          exact ⟨rfl, ST.out⟩
    · have e4 := h2 e2
      subst e1 e4
      have e5 : (xn != yn) = true := by simpa using e2
      clear h1 h2 h3 h5 hsi e0
      generalize strB xs = sb, strB ys = sc at ST ⊢
      go_enter Try.func20, Try.ntmps20
      go_wp2
      all_goals
        go_ret
        exact ⟨rfl, ST.out⟩
  · have e4 := h1 e1
    subst e4
    have e5 : (xk != yk) = true := by simpa using e1
    clear h1 h2 h3 h5 hsi e0
    generalize strB xs = sb, strB ys = sc at ST ⊢
    go_enter Try.func20, Try.ntmps20
    go_wp2
    all_goals
      go_ret
      exact ⟨rfl, ST.out⟩

theorem SameR.all (d : Nat) : SameR d := by
  induction d using Nat.strongRecOn with
  | _ d ih => exact rSame_step d ih

end Go.Proofs.Ytcokkloaljaanaa
