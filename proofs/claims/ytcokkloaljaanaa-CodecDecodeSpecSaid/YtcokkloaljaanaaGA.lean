/-
  Plain facts on encodings: they are read back, and only they are read. No condition.
-/
import Derived.Test.YtcokkloaljaanaaCZ
namespace Go.Proofs.Ytcokkloaljaanaa
open Go.RowKit

theorem cntL_sum {f : Nat} {l : List Val} {n : Nat} (h : cntL f l n < 1000) : cntL f l n = n + (l.map (Val.cnt f)).sum := by
  induction l generalizing n with
  | nil => simp [cntL]
  | cons x l ih =>
    have e : cntL f (x :: l) n = cntL f l (if n ≤ 1000 then n + x.cnt f else n) := by rw [cntL, List.foldl_cons]; rfl
    by_cases hn : n ≤ 1000
    · rw [e, if_pos hn] at h ⊢
      rw [ih h]
      simp only [List.map_cons, List.sum_cons]
      omega
    · rw [cntL_over (by omega)] at h
      omega
theorem sum_mem {l : List Val} {f : Val → Nat} {x : Val} (h : x ∈ l) : f x ≤ (l.map f).sum := by
  induction l with
  | nil => cases h
  | cons y l ih =>
    simp only [List.map_cons, List.sum_cons]
    rcases List.mem_cons.1 h with rfl | h
    · omega
    · have := ih h; omega
theorem encL_sum {l : List Val} {f : Val → Nat} (h : ∀ x ∈ l, x.enc.length ≤ 210 * f x) : (encL l).length ≤ 210 * (l.map f).sum := by
  induction l with
  | nil => simp [encL]
  | cons x l ih =>
    have h1 := h x List.mem_cons_self
    have h2 := ih fun y hy => h y (List.mem_cons_of_mem _ hy)
    simp only [encL, List.length_append, List.map_cons, List.sum_cons]
    omega
/-- A value with few parts is not deep, and its encoding is not long. -/
theorem enc_few (f : Nat) : ∀ x : Val, x.fits → x.cnt f < 1000 → x.nest < f ∧ x.enc.length ≤ 210 * x.cnt f := by
  induction f with
  | zero => intro x _ h; rw [cnt_zero] at h; omega
  | succ f ih =>
    intro x hx h
    by_cases hl : 150 < x.elems.length
    · rw [cnt_long f x hl] at h; omega
    · rw [cnt_succ f x hl] at h ⊢
      have hs := cntL_sum h
      rw [hs] at h ⊢
      have hm : ∀ y ∈ x.elems, y.nest < f ∧ y.enc.length ≤ 210 * y.cnt f := fun y hy =>
        ih y (fits_mem hx.els hy) (by have := sum_mem (f := Val.cnt f) hy; omega)
      have hn : x.nest ≤ f := by
        rw [x.nest_elems]
        exact nestL_le fun y hy => (hm y hy).1
      have he := encL_sum (f := Val.cnt f) fun y hy => (hm y hy).2
      have hnum := hx.nums
      have hstr := hx.strs
      unfold maxLen at hstr
      refine ⟨by omega, ?_⟩
      obtain ⟨k, n, s, l⟩ := x
      simp only [Val.elems, Val.str, Val.num] at *
      have d : s.length ≤ 200 * (s.length / 200) + 199 := by omega
      by_cases h1 : k = 1
      · subst h1
        have := numT_le (zig_lt hnum.1 hnum.2)
        rw [enc_1, List.length_append]
        simp only [List.length_singleton]
        omega
      · by_cases h2 : k = 2
        · subst h2
          have := numT_le (u := s.length) (by omega)
          rw [enc_2, List.length_append, List.length_append]
          simp only [List.length_singleton]
          omega
        · have := numT_le (u := l.length) (by omega)
          rw [Val.enc, if_neg h1, if_neg h2]
          simp only [List.length_cons, List.length_append]
          omega
theorem few_enc {x : Val} (hf : x.fits) (h : fewV x = true) : x.nest ≤ 20 ∧ x.enc.length ≤ 42000 := by
  have h1 : x.cnt 21 ≤ 200 := of_decide_eq_true h
  obtain ⟨h2, h3⟩ := enc_few 21 x hf (by omega)
  omega

theorem rdNum_numT (u : Nat) : ∀ (i acc : Nat) (r : Bs), i ≤ 9 → u * 128 ^ i < 18446744073709551616 → (i = 0 ∨ u ≠ 0) → rdNum i acc (numT u ++ r) = some (acc + u * 128 ^ i, r) := by
  induction u using Nat.strongRecOn with
  | _ u ih =>
    intro i acc r hi hu h0
    have h9 : i = 9 → u ≤ 1 := by
      rintro rfl
      have e : 128 ^ 9 = 9223372036854775808 := by decide
      rw [e] at hu
      omega
    by_cases h : u < 128
    · rw [numT_small h, List.singleton_append]
      have hc : (UInt8.ofNat u).toNat = u := by simp; omega
      have hv : (i = 0 ∨ (UInt8.ofNat u).toNat ≠ 0) ∧ (i < 9 ∨ (UInt8.ofNat u).toNat ≤ 1) := by
        rw [hc]
        refine ⟨h0, ?_⟩
        by_cases hi9 : i = 9
        · exact .inr (h9 hi9)
        · exact .inl (by omega)
      rw [rdNum_end hv (by rw [hc]; exact h), hc, Nat.mod_eq_of_lt h]
    · rw [numT_big h, List.cons_append]
      have hc : (UInt8.ofNat (u % 128 + 128)).toNat = u % 128 + 128 := by simp; omega
      have hi9 : i < 9 := by
        by_cases hi9 : i = 9
        · have := h9 hi9; omega
        · omega
      have hv : (i = 0 ∨ (UInt8.ofNat (u % 128 + 128)).toNat ≠ 0) ∧ (i < 9 ∨ (UInt8.ofNat (u % 128 + 128)).toNat ≤ 1) := by
        rw [hc]; exact ⟨.inr (by omega), .inl hi9⟩
      rw [rdNum_go hv (by rw [hc]; omega), hc]
      have e1 : (u % 128 + 128) % 128 = u % 128 := by omega
      have e2 : 128 ^ (i + 1) = 128 * 128 ^ i := by rw [Nat.pow_succ, Nat.mul_comm]
      have e3 : u / 128 * (128 * 128 ^ i) + u % 128 * 128 ^ i = u * 128 ^ i := by
        rw [← Nat.mul_assoc, ← Nat.add_mul]
        congr 1
        omega
      rw [e1, ih (u / 128) (by omega) (i + 1) _ r (by omega) (by rw [e2]; omega) (.inr (by omega)), e2]
      congr 2
      omega
theorem rdNum_of {u : Nat} (h : u < 18446744073709551616) (r : Bs) : rdNum 0 0 (numT u ++ r) = some (u, r) := by
  have := rdNum_numT u 0 0 r (by decide) (by simpa using h) (.inl rfl)
  simpa using this
theorem numT_rdNum {l : Bs} : ∀ {i acc v : Nat} {r : Bs}, i ≤ 9 → rdNum i acc l = some (v, r) → ∃ u, v = acc + u * 128 ^ i ∧ l = numT u ++ r ∧ (i = 0 ∨ u ≠ 0) := by
  induction l with
  | nil => intro i acc v r _ h; cases h
  | cons c t ih =>
    intro i acc v r hi h
    have hcn : c.toNat < 256 := c.toNat_lt
    by_cases hv : (i = 0 ∨ c.toNat ≠ 0) ∧ (i < 9 ∨ c.toNat ≤ 1)
    · by_cases h128 : c.toNat < 128
      · rw [rdNum_end hv h128] at h
        cases h
        refine ⟨c.toNat, by rw [Nat.mod_eq_of_lt h128], ?_, hv.1⟩
        rw [numT_small h128]
        simp
      · rw [rdNum_go hv h128] at h
        obtain ⟨u, h1, h2, h3⟩ := ih (by omega) h
        have hu0 : u ≠ 0 := by omega
        refine ⟨c.toNat % 128 + 128 * u, ?_, ?_, .inr (by omega)⟩
        · rw [h1, Nat.pow_succ, Nat.add_mul, Nat.mul_comm (128 ^ i) 128, ← Nat.mul_assoc, Nat.mul_comm u 128]
          omega
        · have e1 : (c.toNat % 128 + 128 * u) % 128 + 128 = c.toNat := by omega
          have e2 : (c.toNat % 128 + 128 * u) / 128 = u := by omega
          rw [numT_big (by omega), e1, e2, h2]
          simp
    · rw [rdNum_bad hv] at h
      cases h
theorem rdNum_inv {l : Bs} {u : Nat} {r : Bs} (h : rdNum 0 0 l = some (u, r)) : l = numT u ++ r := by
  obtain ⟨v, h1, h2, _⟩ := numT_rdNum (by decide) h
  obtain rfl : u = v := by simpa using h1
  exact h2

theorem encL_ge (l : List Val) : l.length ≤ (encL l).length := by
  induction l with
  | nil => exact Nat.zero_le _
  | cons x l ih =>
    have hx : 0 < x.enc.length := by
      obtain ⟨k, n, s, m⟩ := x
      rw [Val.enc]
      split
      · simp
      · split <;> simp
    simp only [encL, List.length_append, List.length_cons]
    omega
theorem rdMany_enc {f : Bs → Option (Val × Bs)} {l : List Val} (h : ∀ x ∈ l, ∀ r, f (x.enc ++ r) = some (x, r)) (r : Bs) : rdMany f l.length (encL l ++ r) = some (l, r) := by
  induction l with
  | nil => rfl
  | cons x l ih =>
    rw [List.length_cons, rdMany, encL, List.append_assoc, h x List.mem_cons_self, Option.bind_some, ih fun y hy => h y (List.mem_cons_of_mem _ hy)]
    rfl
theorem depth_mem {l : List Val} {y : Val} (hy : y ∈ l) : y.depth ≤ depthL l := by
  induction l with
  | nil => cases hy
  | cons z l ih2 =>
    rw [depthL]
    rcases List.mem_cons.1 hy with rfl | hy
    · exact Nat.le_max_left _ _
    · exact Nat.le_trans (ih2 hy) (Nat.le_max_right _ _)
/-- Encodings are read back. -/
theorem rdVal_enc (m : Nat) : ∀ x : Val, x.okB = true → x.fits → x.depth ≤ m → ∀ r, rdVal m (x.enc ++ r) = some (x, r) := by
  induction m with
  | zero =>
    intro x hok hf hd r
    have hn := hf.nums
    have hs := hf.strs
    unfold maxLen at hs
    obtain ⟨k, n, s, l⟩ := x
    simp only [Val.num, Val.str] at hn hs
    rcases okB_kind hok with hk | hk | hk
    · simp only [Val.kind] at hk
      subst hk
      rw [Val.okB, if_pos rfl, Bool.and_eq_true] at hok
      obtain rfl := List.isEmpty_iff.1 hok.1
      obtain rfl := List.isEmpty_iff.1 hok.2
      rw [enc_1, List.append_assoc, List.singleton_append, rdVal_one, rdNum_of (zig_lt hn.1 hn.2)]
      simp [zag_zig]
    · simp only [Val.kind] at hk
      subst hk
      rw [Val.okB, if_neg (by decide), if_pos rfl, Bool.and_eq_true, decide_eq_true_eq] at hok
      obtain ⟨rfl, h2⟩ := hok
      obtain rfl := List.isEmpty_iff.1 h2
      rw [enc_2, List.append_assoc, List.append_assoc, List.singleton_append, rdVal_two, rdLen_of (rdNum_of (u := s.length) (by omega) (s ++ r)) (by simp)]
      simp
    · simp only [Val.kind] at hk
      subst hk
      rw [depth_list] at hd
      omega
  | succ m ih =>
    intro x hok hf hd r
    have hn := hf.nums
    have hs := hf.strs
    have he := hf.els
    have hln := hf.lens
    unfold maxLen at hs hln
    obtain ⟨k, n, s, l⟩ := x
    simp only [Val.num, Val.str, Val.elems] at hn hs he hln
    rcases okB_kind hok with hk | hk | hk
    · simp only [Val.kind] at hk
      subst hk
      rw [Val.okB, if_pos rfl, Bool.and_eq_true] at hok
      obtain rfl := List.isEmpty_iff.1 hok.1
      obtain rfl := List.isEmpty_iff.1 hok.2
      rw [enc_1, List.append_assoc, List.singleton_append, rdVal_one, rdNum_of (zig_lt hn.1 hn.2)]
      simp [zag_zig]
    · simp only [Val.kind] at hk
      subst hk
      rw [Val.okB, if_neg (by decide), if_pos rfl, Bool.and_eq_true, decide_eq_true_eq] at hok
      obtain ⟨rfl, h2⟩ := hok
      obtain rfl := List.isEmpty_iff.1 h2
      rw [enc_2, List.append_assoc, List.append_assoc, List.singleton_append, rdVal_two, rdLen_of (rdNum_of (u := s.length) (by omega) (s ++ r)) (by simp)]
      simp
    · simp only [Val.kind] at hk
      subst hk
      obtain ⟨rfl, rfl, hol⟩ := okB_three hok
      rw [depth_list] at hd
      have hall : ∀ y ∈ l, ∀ r, rdVal m (y.enc ++ r) = some (y, r) := fun y hy r => ih y (okL_at hol hy) (fits_mem he hy) (by
        have := depth_mem hy
        omega) r
      · rw [enc_3, List.append_assoc, List.append_assoc, List.singleton_append, rdVal_list, rdLen_of (rdNum_of (u := l.length) (by omega) (encL l ++ r)) (by have := encL_ge l; simp; omega), Option.bind_some]
        dsimp only
        rw [rdMany_enc hall]
        rfl

theorem rdMany_inv {f : Bs → Option (Val × Bs)} {m : Nat} (hf : ∀ r x r', f r = some (x, r') → r = x.enc ++ r' ∧ x.okB = true ∧ x.depth ≤ m ∧ (r.length ≤ maxLen → x.fits)) (n : Nat) : ∀ r l r', rdMany f n r = some (l, r') → r = encL l ++ r' ∧ l.length = n ∧ okL l = true ∧ depthL l ≤ m ∧ (r.length ≤ maxLen → fitsL l) := by
  induction n with
  | zero => intro r l r' h; cases h; exact ⟨rfl, rfl, rfl, Nat.zero_le _, fun _ => trivial⟩
  | succ n ih =>
    intro r l r' h
    rw [rdMany] at h
    rcases h1 : f r with _ | ⟨x, r1⟩
    · rw [h1] at h; cases h
    · rw [h1, Option.bind_some] at h
      rcases h2 : rdMany f n r1 with _ | ⟨l2, r2⟩
      · rw [h2] at h; cases h
      · rw [h2] at h
        cases h
        obtain ⟨a1, a2, a3, a4⟩ := hf _ _ _ h1
        obtain ⟨b1, b2, b3, b4, b5⟩ := ih _ _ _ h2
        refine ⟨by rw [a1, b1, encL, List.append_assoc], by simp [b2], by rw [okL, a2, b3]; rfl, by rw [depthL]; exact Nat.max_le.2 ⟨a3, b4⟩, fun hl => ⟨a4 hl, b5 ?_⟩⟩
        rw [a1, List.length_append] at hl
        omega
/-- What is read is encoded so. -/
theorem rdVal_inv (m : Nat) : ∀ l x r, rdVal m l = some (x, r) → l = x.enc ++ r ∧ x.okB = true ∧ x.depth ≤ m ∧ (l.length ≤ maxLen → x.fits) := by
  induction m with
  | zero =>
    intro l x r h
    rcases l with _ | ⟨c, t⟩
    · cases h
    · by_cases h1 : c = 1
      · subst h1
        rw [rdVal_one] at h
        rcases hn : rdNum 0 0 t with _ | ⟨u, q⟩
        · rw [hn] at h; cases h
        · rw [hn] at h
          cases h
          have hu := (rdNum_lt (by omega) (by decide) hn).1
          have hz := zag_range hu
          refine ⟨by rw [rdNum_inv hn, enc_1, zig_zag, List.append_assoc]; rfl, rfl, Nat.zero_le _, fun _ => ⟨hz, ⟨Nat.zero_le _, Nat.zero_le _⟩, trivial⟩⟩
      · by_cases h2 : c = 2
        · subst h2
          rw [rdVal_two] at h
          rcases hn : rdLen t with _ | ⟨u, q⟩
          · rw [hn] at h; cases h
          · rw [hn] at h
            cases h
            obtain ⟨hnn, hur⟩ := rdLen_some hn
            have hq := (rdNum_lt (by omega) (by decide) hnn).2
            have htl : (q.take u).length = u := by rw [List.length_take]; omega
            refine ⟨?_, by rw [Val.okB, if_neg (by decide), if_pos rfl]; rfl, Nat.zero_le _, fun hl => ⟨by decide, ⟨by rw [htl]; simp only [List.length_cons] at hl; omega, Nat.zero_le _⟩, trivial⟩⟩
            rw [rdNum_inv hnn, enc_2, htl, List.append_assoc, List.append_assoc, List.take_append_drop]
            rfl
        · by_cases h3 : c = 3
          · subst h3; rw [rdVal_zero] at h; cases h
          · rw [rdVal_no 0 t h1 h2 h3] at h; cases h
  | succ m ih =>
    intro l x r h
    rcases l with _ | ⟨c, t⟩
    · cases h
    · by_cases h1 : c = 1
      · subst h1
        rw [rdVal_one] at h
        rcases hn : rdNum 0 0 t with _ | ⟨u, q⟩
        · rw [hn] at h; cases h
        · rw [hn] at h
          cases h
          have hu := (rdNum_lt (by omega) (by decide) hn).1
          have hz := zag_range hu
          refine ⟨by rw [rdNum_inv hn, enc_1, zig_zag, List.append_assoc]; rfl, rfl, Nat.zero_le _, fun _ => ⟨hz, ⟨Nat.zero_le _, Nat.zero_le _⟩, trivial⟩⟩
      · by_cases h2 : c = 2
        · subst h2
          rw [rdVal_two] at h
          rcases hn : rdLen t with _ | ⟨u, q⟩
          · rw [hn] at h; cases h
          · rw [hn] at h
            cases h
            obtain ⟨hnn, hur⟩ := rdLen_some hn
            have hq := (rdNum_lt (by omega) (by decide) hnn).2
            have htl : (q.take u).length = u := by rw [List.length_take]; omega
            refine ⟨?_, by rw [Val.okB, if_neg (by decide), if_pos rfl]; rfl, Nat.zero_le _, fun hl => ⟨by decide, ⟨by rw [htl]; simp only [List.length_cons] at hl; omega, Nat.zero_le _⟩, trivial⟩⟩
            rw [rdNum_inv hnn, enc_2, htl, List.append_assoc, List.append_assoc, List.take_append_drop]
            rfl
        · by_cases h3 : c = 3
          · subst h3
            rw [rdVal_list] at h
            rcases hn : rdLen t with _ | ⟨u, q⟩
            · rw [hn] at h; cases h
            · rw [hn, Option.bind_some] at h
              rcases hm : rdMany (rdVal m) u q with _ | ⟨l2, r2⟩
              · rw [hm] at h; cases h
              · rw [hm] at h
                cases h
                obtain ⟨hnn, hur⟩ := rdLen_some hn
                have hq := (rdNum_lt (by omega) (by decide) hnn).2
                obtain ⟨b1, b2, b3, b4, b5⟩ := rdMany_inv ih u q l2 _ hm
                refine ⟨?_, by rw [ok_of_list, b3]; rfl, by rw [depth_list]; exact Nat.succ_le_succ b4, fun hl => ?_⟩
                · rw [rdNum_inv hnn, enc_3, b2, b1]
                  simp only [List.append_assoc]
                  rfl
                · simp only [List.length_cons] at hl
                  exact ⟨by decide, ⟨Nat.zero_le _, (by show l2.length ≤ maxLen; omega)⟩, b5 (by omega)⟩
          · rw [rdVal_no _ t h1 h2 h3] at h; cases h

/-- Encodings, none of which begins another. -/
theorem enc_prefix {x y : Val} {r s : Bs} (hx : x.okB = true) (hy : y.okB = true) (fx : x.fits) (fy : y.fits) (h : x.enc ++ r = y.enc ++ s) : x = y ∧ r = s := by
  have h1 := rdVal_enc (max x.depth y.depth) x hx fx (Nat.le_max_left _ _) r
  have h2 := rdVal_enc (max x.depth y.depth) y hy fy (Nat.le_max_right _ _) s
  rw [h, h2] at h1
  cases h1
  exact ⟨rfl, rfl⟩
theorem dec_enc {x : Val} (hx : x.okB = true) (fx : x.fits) (hd : x.depth ≤ 16) : decT x.enc = (x, 0) := by
  have := rdVal_enc 16 x hx fx hd []
  rw [List.append_nil] at this
  exact dec_some this

end Go.Proofs.Ytcokkloaljaanaa
