/- Plain facts on encodings: they are read back, and only they are read. No condition. -/
import Derived.Test.YtmbifmmkccghfaaGreatQCX
import Derived.Test.YtmbifmmkccghfaaGreatQBM
import Derived.Test.YtmbifmmkccghfaaGreatQAC
import Derived.Test.YtmbifmmkccghfaaGreatQK
import Derived.Maps.AppendAt
import Derived.Lib.MinMax
import Derived.RegionTactic
import Derived.BigRegion
import Derived.Laws.EntriesVeiled
set_option linter.unusedVariables false
set_option linter.unusedSimpArgs false
set_option maxRecDepth 100000
set_option maxHeartbeats 1000000
namespace Go.Proofs.YtmbifmmkccghfaaGreat
open Go.RowKit
theorem rdNum_numT (u : Nat) : ∀ (i acc : Nat) (r : Bs), i ≤ 9 → u * 128 ^ i < 18446744073709551616 → (i = 0 ∨ u ≠ 0) → rdNum i acc (numT u ++ r) = some (acc + u * 128 ^ i, r) := by
  induction u using Nat.strongRecOn with
  | _ u ih =>
    intro i acc r hi hu h0
    have h9 : i = 9 → u ≤ 1 := by
      rintro rfl
      have e : 128 ^ 9 = 9223372036854775808 := by decide
      rw [e] at hu
      omega
    by_cases h : u < 128
    · rw [numT_small h, List.singleton_append]
      have hc : (UInt8.ofNat u).toNat = u := by simp; omega
      have hv : (i = 0 ∨ (UInt8.ofNat u).toNat ≠ 0) ∧ (i < 9 ∨ (UInt8.ofNat u).toNat ≤ 1) := by
        rw [hc]
        refine ⟨h0, ?_⟩
        by_cases hi9 : i = 9
        · exact .inr (h9 hi9)
        · exact .inl (by omega)
      rw [rdNum_end hv (by rw [hc]; exact h), hc, Nat.mod_eq_of_lt h]
    · rw [numT_big h, List.cons_append]
      have hc : (UInt8.ofNat (u % 128 + 128)).toNat = u % 128 + 128 := by simp; omega
      have hi9 : i < 9 := by
        by_cases hi9 : i = 9
        · have := h9 hi9; omega
        · omega
      have hv : (i = 0 ∨ (UInt8.ofNat (u % 128 + 128)).toNat ≠ 0) ∧ (i < 9 ∨ (UInt8.ofNat (u % 128 + 128)).toNat ≤ 1) := by
        rw [hc]; exact ⟨.inr (by omega), .inl hi9⟩
      rw [rdNum_go hv (by rw [hc]; omega), hc]
      have e1 : (u % 128 + 128) % 128 = u % 128 := by omega
      have e2 : 128 ^ (i + 1) = 128 * 128 ^ i := by rw [Nat.pow_succ, Nat.mul_comm]
      have e3 : u / 128 * (128 * 128 ^ i) + u % 128 * 128 ^ i = u * 128 ^ i := by
        rw [← Nat.mul_assoc, ← Nat.add_mul]
        congr 1
        omega
      rw [e1, ih (u / 128) (by omega) (i + 1) _ r (by omega) (by rw [e2]; omega) (.inr (by omega)), e2]
      congr 2
      omega
theorem rdNum_of {u : Nat} (h : u < 18446744073709551616) (r : Bs) : rdNum 0 0 (numT u ++ r) = some (u, r) := by
  have := rdNum_numT u 0 0 r (by decide) (by simpa using h) (.inl rfl)
  simpa using this
theorem numT_rdNum {l : Bs} : ∀ {i acc v : Nat} {r : Bs}, i ≤ 9 → rdNum i acc l = some (v, r) → ∃ u, v = acc + u * 128 ^ i ∧ l = numT u ++ r ∧ (i = 0 ∨ u ≠ 0) := by
  induction l with
  | nil => intro i acc v r _ h; cases h
  | cons c t ih =>
    intro i acc v r hi h
    have hcn : c.toNat < 256 := c.toNat_lt
    by_cases hv : (i = 0 ∨ c.toNat ≠ 0) ∧ (i < 9 ∨ c.toNat ≤ 1)
    · by_cases h128 : c.toNat < 128
      · rw [rdNum_end hv h128] at h
        cases h
        refine ⟨c.toNat, by rw [Nat.mod_eq_of_lt h128], ?_, hv.1⟩
        rw [numT_small h128]
        simp
      · rw [rdNum_go hv h128] at h
        obtain ⟨u, h1, h2, h3⟩ := ih (by omega) h
        have hu0 : u ≠ 0 := by omega
        refine ⟨c.toNat % 128 + 128 * u, ?_, ?_, .inr (by omega)⟩
        · rw [h1, Nat.pow_succ, Nat.add_mul, Nat.mul_comm (128 ^ i) 128, ← Nat.mul_assoc, Nat.mul_comm u 128]
          omega
        · have e1 : (c.toNat % 128 + 128 * u) % 128 + 128 = c.toNat := by omega
          have e2 : (c.toNat % 128 + 128 * u) / 128 = u := by omega
          rw [numT_big (by omega), e1, e2, h2]
          simp
    · rw [rdNum_bad hv] at h
      cases h
theorem rdNum_inv {l : Bs} {u : Nat} {r : Bs} (h : rdNum 0 0 l = some (u, r)) : l = numT u ++ r := by
  obtain ⟨v, h1, h2, _⟩ := numT_rdNum (by decide) h
  obtain rfl : u = v := by simpa using h1
  exact h2
theorem encL_ge (l : List Val) : l.length ≤ (encL l).length := by
  induction l with
  | nil => exact Nat.zero_le _
  | cons x l ih =>
    have hx : 0 < x.enc.length := by
      obtain ⟨k, n, s, m⟩ := x
      rw [Val.enc]
      split
      · simp
      · split <;> simp
    simp only [encL, List.length_append, List.length_cons]
    omega
theorem rdMany_enc {f : Bs → Option (Val × Bs)} {l : List Val} (h : ∀ x ∈ l, ∀ r, f (x.enc ++ r) = some (x, r)) (r : Bs) : rdMany f l.length (encL l ++ r) = some (l, r) := by
  induction l with
  | nil => rfl
  | cons x l ih =>
    rw [List.length_cons, rdMany, encL, List.append_assoc, h x List.mem_cons_self, Option.bind_some, ih fun y hy => h y (List.mem_cons_of_mem _ hy)]
    rfl
theorem depth_mem {l : List Val} {y : Val} (hy : y ∈ l) : y.depth ≤ depthL l := by
  induction l with
  | nil => cases hy
  | cons z l ih2 =>
    rw [depthL]
    rcases List.mem_cons.1 hy with rfl | hy
    · exact Nat.le_max_left _ _
    · exact Nat.le_trans (ih2 hy) (Nat.le_max_right _ _)
theorem rdVal_enc (m : Nat) : ∀ x : Val, x.okB = true → x.fits → x.depth ≤ m → ∀ r, rdVal m (x.enc ++ r) = some (x, r) := by
  induction m with
  | zero =>
    intro x hok hf hd r
    have hn := hf.nums
    have hs := hf.strs
    unfold maxLen at hs
    obtain ⟨k, n, s, l⟩ := x
    simp only [Val.num, Val.str] at hn hs
    rcases okB_kind hok with hk | hk | hk
    · simp only [Val.kind] at hk
      subst hk
      rw [Val.okB, if_pos rfl, Bool.and_eq_true] at hok
      obtain rfl := List.isEmpty_iff.1 hok.1
      obtain rfl := List.isEmpty_iff.1 hok.2
      rw [enc_1, List.append_assoc, List.singleton_append, rdVal_one, rdNum_of (zig_lt hn.1 hn.2)]
      simp [zag_zig]
    · simp only [Val.kind] at hk
      subst hk
      rw [Val.okB, if_neg (by decide), if_pos rfl, Bool.and_eq_true, decide_eq_true_eq] at hok
      obtain ⟨rfl, h2⟩ := hok
      obtain rfl := List.isEmpty_iff.1 h2
      rw [enc_2, List.append_assoc, List.append_assoc, List.singleton_append, rdVal_two, rdLen_of (rdNum_of (u := s.length) (by omega) (s ++ r)) (by simp)]
      simp
    · simp only [Val.kind] at hk
      subst hk
      rw [depth_list] at hd
      omega
  | succ m ih =>
    intro x hok hf hd r
    have hn := hf.nums
    have hs := hf.strs
    have he := hf.els
    have hln := hf.lens
    unfold maxLen at hs hln
    obtain ⟨k, n, s, l⟩ := x
    simp only [Val.num, Val.str, Val.elems] at hn hs he hln
    rcases okB_kind hok with hk | hk | hk
    · simp only [Val.kind] at hk
      subst hk
      rw [Val.okB, if_pos rfl, Bool.and_eq_true] at hok
      obtain rfl := List.isEmpty_iff.1 hok.1
      obtain rfl := List.isEmpty_iff.1 hok.2
      rw [enc_1, List.append_assoc, List.singleton_append, rdVal_one, rdNum_of (zig_lt hn.1 hn.2)]
      simp [zag_zig]
    · simp only [Val.kind] at hk
      subst hk
      rw [Val.okB, if_neg (by decide), if_pos rfl, Bool.and_eq_true, decide_eq_true_eq] at hok
      obtain ⟨rfl, h2⟩ := hok
      obtain rfl := List.isEmpty_iff.1 h2
      rw [enc_2, List.append_assoc, List.append_assoc, List.singleton_append, rdVal_two, rdLen_of (rdNum_of (u := s.length) (by omega) (s ++ r)) (by simp)]
      simp
    · simp only [Val.kind] at hk
      subst hk
      obtain ⟨rfl, rfl, hol⟩ := okB_three hok
      rw [depth_list] at hd
      have hall : ∀ y ∈ l, ∀ r, rdVal m (y.enc ++ r) = some (y, r) := fun y hy r => ih y (okL_at hol hy) (fits_mem he hy) (by
        have := depth_mem hy
        omega) r
      · rw [enc_3, List.append_assoc, List.append_assoc, List.singleton_append, rdVal_list, rdLen_of (rdNum_of (u := l.length) (by omega) (encL l ++ r)) (by have := encL_ge l; simp; omega), Option.bind_some]
        dsimp only
        rw [rdMany_enc hall]
        rfl
theorem rdMany_inv {f : Bs → Option (Val × Bs)} {m : Nat} (hf : ∀ r x r', f r = some (x, r') → r = x.enc ++ r' ∧ x.okB = true ∧ x.depth ≤ m ∧ (r.length ≤ maxLen → x.fits)) (n : Nat) : ∀ r l r', rdMany f n r = some (l, r') → r = encL l ++ r' ∧ l.length = n ∧ okL l = true ∧ depthL l ≤ m ∧ (r.length ≤ maxLen → fitsL l) := by
  induction n with
  | zero => intro r l r' h; cases h; exact ⟨rfl, rfl, rfl, Nat.zero_le _, fun _ => trivial⟩
  | succ n ih =>
    intro r l r' h
    rw [rdMany] at h
    rcases h1 : f r with _ | ⟨x, r1⟩
    · rw [h1] at h; cases h
    · rw [h1, Option.bind_some] at h
      rcases h2 : rdMany f n r1 with _ | ⟨l2, r2⟩
      · rw [h2] at h; cases h
      · rw [h2] at h
        cases h
        obtain ⟨a1, a2, a3, a4⟩ := hf _ _ _ h1
        obtain ⟨b1, b2, b3, b4, b5⟩ := ih _ _ _ h2
        refine ⟨by rw [a1, b1, encL, List.append_assoc], by simp [b2], by rw [okL, a2, b3]; rfl, by rw [depthL]; exact Nat.max_le.2 ⟨a3, b4⟩, fun hl => ⟨a4 hl, b5 ?_⟩⟩
        rw [a1, List.length_append] at hl
        omega
theorem rdVal_inv (m : Nat) : ∀ l x r, rdVal m l = some (x, r) → l = x.enc ++ r ∧ x.okB = true ∧ x.depth ≤ m ∧ (l.length ≤ maxLen → x.fits) := by
  induction m with
  | zero =>
    intro l x r h
    rcases l with _ | ⟨c, t⟩
    · cases h
    · by_cases h1 : c = 1
      · subst h1
        rw [rdVal_one] at h
        rcases hn : rdNum 0 0 t with _ | ⟨u, q⟩
        · rw [hn] at h; cases h
        · rw [hn] at h
          cases h
          have hu := (rdNum_lt (by omega) (by decide) hn).1
          have hz := zag_range hu
          refine ⟨by rw [rdNum_inv hn, enc_1, zig_zag, List.append_assoc]; rfl, rfl, Nat.zero_le _, fun _ => ⟨hz, ⟨Nat.zero_le _, Nat.zero_le _⟩, trivial⟩⟩
      · by_cases h2 : c = 2
        · subst h2
          rw [rdVal_two] at h
          rcases hn : rdLen t with _ | ⟨u, q⟩
          · rw [hn] at h; cases h
          · rw [hn] at h
            cases h
            obtain ⟨hnn, hur⟩ := rdLen_some hn
            have hq := (rdNum_lt (by omega) (by decide) hnn).2
            have htl : (q.take u).length = u := by rw [List.length_take]; omega
            refine ⟨?_, by rw [Val.okB, if_neg (by decide), if_pos rfl]; rfl, Nat.zero_le _, fun hl => ⟨by decide, ⟨by rw [htl]; simp only [List.length_cons] at hl; omega, Nat.zero_le _⟩, trivial⟩⟩
            rw [rdNum_inv hnn, enc_2, htl, List.append_assoc, List.append_assoc, List.take_append_drop]
            rfl
        · by_cases h3 : c = 3
          · subst h3; rw [rdVal_zero] at h; cases h
          · rw [rdVal_no 0 t h1 h2 h3] at h; cases h
  | succ m ih =>
    intro l x r h
    rcases l with _ | ⟨c, t⟩
    · cases h
    · by_cases h1 : c = 1
      · subst h1
        rw [rdVal_one] at h
        rcases hn : rdNum 0 0 t with _ | ⟨u, q⟩
        · rw [hn] at h; cases h
        · rw [hn] at h
          cases h
          have hu := (rdNum_lt (by omega) (by decide) hn).1
          have hz := zag_range hu
          refine ⟨by rw [rdNum_inv hn, enc_1, zig_zag, List.append_assoc]; rfl, rfl, Nat.zero_le _, fun _ => ⟨hz, ⟨Nat.zero_le _, Nat.zero_le _⟩, trivial⟩⟩
      · by_cases h2 : c = 2
        · subst h2
          rw [rdVal_two] at h
          rcases hn : rdLen t with _ | ⟨u, q⟩
          · rw [hn] at h; cases h
          · rw [hn] at h
            cases h
            obtain ⟨hnn, hur⟩ := rdLen_some hn
            have hq := (rdNum_lt (by omega) (by decide) hnn).2
            have htl : (q.take u).length = u := by rw [List.length_take]; omega
            refine ⟨?_, by rw [Val.okB, if_neg (by decide), if_pos rfl]; rfl, Nat.zero_le _, fun hl => ⟨by decide, ⟨by rw [htl]; simp only [List.length_cons] at hl; omega, Nat.zero_le _⟩, trivial⟩⟩
            rw [rdNum_inv hnn, enc_2, htl, List.append_assoc, List.append_assoc, List.take_append_drop]
            rfl
        · by_cases h3 : c = 3
          · subst h3
            rw [rdVal_list] at h
            rcases hn : rdLen t with _ | ⟨u, q⟩
            · rw [hn] at h; cases h
            · rw [hn, Option.bind_some] at h
              rcases hm : rdMany (rdVal m) u q with _ | ⟨l2, r2⟩
              · rw [hm] at h; cases h
              · rw [hm] at h
                cases h
                obtain ⟨hnn, hur⟩ := rdLen_some hn
                have hq := (rdNum_lt (by omega) (by decide) hnn).2
                obtain ⟨b1, b2, b3, b4, b5⟩ := rdMany_inv ih u q l2 _ hm
                refine ⟨?_, by rw [ok_of_list, b3]; rfl, by rw [depth_list]; exact Nat.succ_le_succ b4, fun hl => ?_⟩
                · rw [rdNum_inv hnn, enc_3, b2, b1]
                  simp only [List.append_assoc]
                  rfl
                · simp only [List.length_cons] at hl
                  exact ⟨by decide, ⟨Nat.zero_le _, (by show l2.length ≤ maxLen; omega)⟩, b5 (by omega)⟩
          · rw [rdVal_no _ t h1 h2 h3] at h; cases h
end Go.Proofs.YtmbifmmkccghfaaGreat
namespace Go.Proofs.YtmbifmmkccghfaaGreat
open Go.RowKit
theorem gd_at {α : Type} {d : α} {l : List α} {k : Nat} (hk : k < l.length) : l.getD k d = l[k] := by
  rw [List.getD_eq_getElem?_getD, List.getElem?_eq_getElem hk]
  rfl
structure Bx where
  net : Net
  sent : List (Int × Int)
  heard : List Int
  fresh : List Bool
def Bx.zero : Bx := ⟨Net.zero, [], [], []⟩
def I64 (n : Int) : Prop := -9223372036854775808 ≤ n ∧ n ≤ 9223372036854775807
def intV (n : Int) : Val := .mk 1 n [] []
def msgV (n o : Int) : Val := .mk 3 0 [] [intV n, intV o]
def msgB (n o : Int) : Bs := (msgV n o).enc
theorem intV_ok (n : Int) : (intV n).okB = true := by simp [intV, Val.okB]
theorem msg_ok (n o : Int) : (msgV n o).okB = true := by simp [msgV, Val.okB, okL, intV_ok]
theorem msg_depth (n o : Int) : (msgV n o).depth = 1 := by simp [msgV, intV, Val.depth, depthL]
theorem msg_chk (n o : Int) : chkT (msgV n o) = 0 := chk_ok (msg_ok n o) (by rw [msg_depth]; omega)
theorem intV_fits {n : Int} (h : I64 n) : (intV n).fits := ⟨h, ⟨Nat.zero_le _, Nat.zero_le _⟩, trivial⟩
theorem msg_fits {n o : Int} (h1 : I64 n) (h2 : I64 o) : (msgV n o).fits := ⟨by decide, ⟨Nat.zero_le _, by simp [maxLen]⟩, intV_fits h1, intV_fits h2, trivial⟩
theorem dec_msg {n o : Int} (h1 : I64 n) (h2 : I64 o) : decT (msgB n o) = (msgV n o, 0) := by
  have h := rdVal_enc 16 (msgV n o) (msg_ok n o) (msg_fits h1 h2) (by rw [msg_depth]; omega) []
  rw [List.append_nil] at h
  exact dec_some h
def twoInts (v : Val) : Option (Int × Int) := if v.kind = 3 then (match v.elems with | [a, b] => if a.kind = 1 ∧ b.kind = 1 then some (a.num, b.num) else none | _ => none) else none
def readT (l : Bs) : Option (Int × Int) := if (decT l).2 = 0 then twoInts (decT l).1 else none
def firstInt (v : Val) : Int := if v.kind = 3 then (match v.elems with | [a, _] => if a.kind = 1 ∧ 0 ≤ a.num then a.num else -1 | _ => -1) else -1
def numberT (l : Bs) : Int := if (decT l).2 = 0 then firstInt (decT l).1 else -1
theorem read_msg {n o : Int} (h1 : I64 n) (h2 : I64 o) : readT (msgB n o) = some (n, o) := by
  rw [readT, dec_msg h1 h2]
  rfl
theorem dec_inv {l : Bs} (hl : l.length ≤ maxLen) (h : (decT l).2 = 0) : l = (decT l).1.enc ∧ (decT l).1.okB = true ∧ (decT l).1.fits := by
  rcases hd : rdVal 16 l with _ | ⟨x, r⟩
  · rw [dec_none hd] at h
    cases h
  · cases r with
    | cons c t =>
      rw [dec_more hd (by simp)] at h
      cases h
    | nil =>
      obtain ⟨g1, g2, _, g4⟩ := rdVal_inv 16 l x [] hd
      rw [dec_some hd]
      exact ⟨by rw [List.append_nil] at g1; exact g1, g2, g4 hl⟩
theorem okInt {a : Val} (h : a.okB = true) (hk : a.kind = 1) : a = intV a.num := by
  obtain ⟨k, n, s, l⟩ := a
  obtain rfl : k = 1 := hk
  simp only [Val.okB, if_pos, Bool.and_eq_true, List.isEmpty_iff] at h
  obtain ⟨rfl, rfl⟩ := h
  rfl
theorem read_inv {l : Bs} (hl : l.length ≤ maxLen) {n o : Int} (h : readT l = some (n, o)) : l = msgB n o ∧ I64 n ∧ I64 o := by
  unfold readT at h
  split at h
  · next h0 =>
    obtain ⟨g1, g2, g3⟩ := dec_inv hl h0
    generalize (decT l).1 = v at h g1 g2 g3
    obtain ⟨k, nn, s, es⟩ := v
    unfold twoInts at h
    split at h
    · next hk =>
      obtain rfl : k = 3 := hk
      match es, h, g2, g3, g1 with
      | [a, b], h, g2, g3, g1 =>
        dsimp only [Val.elems] at h
        split at h
        · next hab =>
          simp only [Option.some.injEq, Prod.mk.injEq] at h
          obtain ⟨rfl, rfl⟩ := h
          simp [Val.okB, okL] at g2
          obtain ⟨rfl, rfl, ha, hb⟩ := g2
          have ea := okInt ha hab.1
          have eb := okInt hb hab.2
          refine ⟨by rw [g1, msgB, msgV, ← ea, ← eb], ?_, ?_⟩
          · obtain ⟨_, _, fa, _⟩ := g3
            rw [ea] at fa
            exact fa.1
          · obtain ⟨_, _, _, fb, _⟩ := g3
            rw [eb] at fb
            exact fb.1
        · cases h
      | [], h, _, _, _ => cases h
      | [_], h, _, _, _ => cases h
      | _ :: _ :: _ :: _, h, _, _, _ => cases h
    · cases h
  · cases h
theorem msg_len {n o : Int} (h1 : I64 n) (h2 : I64 o) : (msgB n o).length ≤ 32 := by
  have hz : ∀ a : Int, I64 a → (numT (zig a)).length ≤ 10 := fun a ha => numT_len 10 _ (by unfold I64 at ha; unfold zig; split <;> omega) (by omega)
  have e : msgB n o = [3] ++ numT 2 ++ (([1] ++ numT (zig n)) ++ ([1] ++ numT (zig o))) := by
    rw [msgB, msgV, enc_3]
    simp only [intV, encL, enc_1, List.append_nil]
    rfl
  have h3 := hz n h1
  have h4 := hz o h2
  have h5 := numT_len 1 2 (by omega) (by omega)
  rw [e]
  simp only [List.length_append, List.length_cons, List.length_nil]
  omega
def Bx.at (b : Bx) (n : Int) : Int × Int := b.sent.getD n.toNat (0, 0)
def Bx.pkB (b : Bx) (p : Pk) : Bool := match readT p.data with
  | some (n, o) => decide (0 ≤ n ∧ n < (b.sent.length : Int) ∧ p.src = 0 ∧ p.dst = (b.at n).1 + 1 ∧ o = (b.at n).2)
  | none => false
def Bx.pkP (b : Bx) (p : Pk) : Bool := decide (0 ≤ numberT p.data ∧ numberT p.data < (b.sent.length : Int) ∧ p.src = 0 ∧ p.dst = (b.at (numberT p.data)).1 + 1 ∧ p.data = msgB (numberT p.data) (b.at (numberT p.data)).2)
def Bx.sentB (b : Bx) : Bool := b.sent.all fun m => decide ((0 ≤ m.1 ∧ m.1 < (b.heard.length : Int)) ∧ (0 ≤ m.2 ∧ m.2 ≤ 7))
theorem sent_at {b : Bx} (h : b.sentB = true) {n : Int} (h0 : 0 ≤ n) (h1 : n < (b.sent.length : Int)) : (0 ≤ (b.at n).1 ∧ (b.at n).1 < (b.heard.length : Int)) ∧ (0 ≤ (b.at n).2 ∧ (b.at n).2 ≤ 7) := by
  have hk : n.toNat < b.sent.length := by omega
  have := List.all_eq_true.1 h _ (List.getElem_mem hk)
  rw [Bx.at, List.getD_eq_getElem?_getD, List.getElem?_eq_getElem hk]
  exact of_decide_eq_true this
theorem number_read {l : Bs} {n o : Int} (h : readT l = some (n, o)) (h0 : 0 ≤ n) : numberT l = n := by
  unfold readT at h
  unfold numberT
  split at h
  · next h1 =>
    rw [if_pos h1]
    generalize (decT l).1 = v at h
    unfold twoInts at h
    unfold firstInt
    split at h
    · next hk =>
      rw [if_pos hk]
      obtain ⟨k, nn, s, es⟩ := v
      dsimp only [Val.elems] at h ⊢
      match es, h with
      | [a, c], h =>
        dsimp only at h ⊢
        split at h
        · next hab =>
          simp only [Option.some.injEq, Prod.mk.injEq] at h
          obtain ⟨rfl, _⟩ := h
          rw [if_pos ⟨hab.1, h0⟩]
        · cases h
      | [], h => cases h
      | [_], h => cases h
      | _ :: _ :: _ :: _, h => cases h
    · cases h
  · cases h
theorem pk_same {b : Bx} {p : Pk} (hl : p.data.length ≤ maxLen) (hs : b.sentB = true) (hn : b.sent.length ≤ maxLen) : b.pkP p = b.pkB p := by
  unfold maxLen at hn
  rw [Bool.eq_iff_iff]
  constructor
  · intro h
    obtain ⟨h1, h2, h3, h4, h5⟩ := of_decide_eq_true h
    obtain ⟨_, g3, g4⟩ := sent_at hs h1 h2
    have i1 : I64 (numberT p.data) := ⟨by omega, by omega⟩
    have i2 : I64 (b.at (numberT p.data)).2 := ⟨by omega, by omega⟩
    have hr := read_msg i1 i2
    rw [← h5] at hr
    unfold Bx.pkB
    rw [hr]
    exact decide_eq_true ⟨h1, h2, h3, h4, rfl⟩
  · intro h
    unfold Bx.pkB at h
    rcases hr : readT p.data with _ | ⟨n, o⟩
    · rw [hr] at h; cases h
    · rw [hr] at h
      obtain ⟨h1, h2, h3, h4, h5⟩ := of_decide_eq_true h
      have hnum := number_read hr h1
      obtain ⟨g1, _, _⟩ := read_inv hl hr
      unfold Bx.pkP
      rw [hnum]
      exact decide_eq_true ⟨h1, h2, h3, h4, by rw [← h5]; exact g1⟩
def Bx.h (b : Bx) (g : Nat) : Int := b.heard.getD g 0
def Bx.f (b : Bx) (g : Nat) : Bool := b.fresh.getD g false
def Bx.gateB (b : Bx) (g : Nat) : Bool := if b.h g = 0 then !b.f g else decide (0 ≤ b.h g ∧ b.h g ≤ (b.sent.length : Int) ∧ (b.at (b.h g - 1)).1 = (g : Int))
def Bx.listsB (b : Bx) : Bool := decide ((1 ≤ b.heard.length ∧ b.heard.length ≤ 8) ∧ b.fresh.length = b.heard.length ∧ b.sent.length ≤ 4096)
def Bx.validB (b : Bx) : Bool := b.listsB && (b.sentB && (List.range b.heard.length).all b.gateB)
def Bx.okB (b : Bx) : Bool := b.validB && (b.net.okB && b.net.queue.all b.pkB)
def Bx.checkT (b : Bx) : Int := if b.okB = true then 0 else 340
def newB (n : Int) : Bx × Int := if 1 ≤ n ∧ n ≤ 8 then (⟨Net.zero, [], List.replicate n.toNat 0, List.replicate n.toNat false⟩, 0) else (Bx.zero, 1)
def Bx.sendT (b : Bx) (g o : Int) : Bx × Int :=
  if b.okB = true then (if (0 ≤ g ∧ g < (b.heard.length : Int)) ∧ (0 ≤ o ∧ o ≤ 7) then (if b.sent.length = 4096 then (Bx.zero, 2) else
    (if (Go.Proofs.YtmbifmmkccghfaaGreat.sendT b.net ⟨0, g + 1, msgB b.sent.length o⟩).2 = 0 then (⟨(Go.Proofs.YtmbifmmkccghfaaGreat.sendT b.net ⟨0, g + 1, msgB b.sent.length o⟩).1, b.sent ++ [(g, o)], b.heard, b.fresh⟩, 0) else (Bx.zero, (Go.Proofs.YtmbifmmkccghfaaGreat.sendT b.net ⟨0, g + 1, msgB b.sent.length o⟩).2))) else (Bx.zero, 1)) else (Bx.zero, 340)
def Bx.hear (b : Bx) (p : Pk) (n : Net) : Bx × Bool := if 0 < p.dst ∧ b.h (p.dst - 1).toNat ≤ numberT p.data then (⟨n, b.sent, b.heard.set (p.dst - 1).toNat (numberT p.data + 1), b.fresh.set (p.dst - 1).toNat true⟩, true) else (⟨n, b.sent, b.heard, b.fresh⟩, false)
def Bx.deliverT (b : Bx) (i : Int) : Bx × Bool × Int :=
  if b.okB = true then (if (Go.Proofs.YtmbifmmkccghfaaGreat.deliverT b.net i).2.2 = 0 then ((b.hear (Go.Proofs.YtmbifmmkccghfaaGreat.deliverT b.net i).1 (Go.Proofs.YtmbifmmkccghfaaGreat.deliverT b.net i).2.1).1, (b.hear (Go.Proofs.YtmbifmmkccghfaaGreat.deliverT b.net i).1 (Go.Proofs.YtmbifmmkccghfaaGreat.deliverT b.net i).2.1).2, 0) else (Bx.zero, false, (Go.Proofs.YtmbifmmkccghfaaGreat.deliverT b.net i).2.2)) else (Bx.zero, false, 340)
def Bx.doT (b : Bx) (r : Net × Int) : Bx × Int := if b.okB = true then (if r.2 = 0 then (⟨r.1, b.sent, b.heard, b.fresh⟩, 0) else (Bx.zero, r.2)) else (Bx.zero, 340)
def Bx.loseT (b : Bx) (i : Int) : Bx × Int := b.doT (Go.Proofs.YtmbifmmkccghfaaGreat.loseT b.net i)
def Bx.repeatT (b : Bx) (i : Int) : Bx × Int := b.doT (Go.Proofs.YtmbifmmkccghfaaGreat.repeatT b.net i)
def Bx.orderB (b : Bx) (g : Nat) : Int := if b.f g = true then (b.at (b.h g - 1)).2 else -1
def Bx.tickT (b : Bx) : Bx × List Int × Int := if b.okB = true then (⟨b.net, b.sent, b.heard, List.replicate b.heard.length false⟩, (List.range b.heard.length).map b.orderB, 0) else (Bx.zero, [], 340)
theorem okB_parts {b : Bx} (h : b.okB = true) : b.listsB = true ∧ b.sentB = true ∧ (∀ g, g < b.heard.length → b.gateB g = true) ∧ b.net.okB = true ∧ ∀ p ∈ b.net.queue, b.pkB p = true := by
  simp only [Bx.okB, Bx.validB, Bool.and_eq_true] at h
  exact ⟨h.1.1, h.1.2.1, fun g hg => List.all_eq_true.1 h.1.2.2 g (List.mem_range.2 hg), h.2.1, List.all_eq_true.1 h.2.2⟩
theorem first_kind {k nn : Int} {s : Bs} {es : List Val} (h : k ≠ 3) : firstInt (.mk k nn s es) = -1 := if_neg h
theorem first_len {nn : Int} {s : Bs} {es : List Val} (h : es.length ≠ 2) : firstInt (.mk 3 nn s es) = -1 := by
  show (match es with | [a, _] => if a.kind = 1 ∧ 0 ≤ a.num then a.num else -1 | _ => -1) = _
  match es, h with
  | [], _ => rfl
  | [_], _ => rfl
  | [_, _], h => exact absurd rfl h
  | _ :: _ :: _ :: _, _ => rfl
theorem first_two {nn : Int} {s : Bs} {a c : Val} : firstInt (.mk 3 nn s [a, c]) = if a.kind = 1 ∧ 0 ≤ a.num then a.num else -1 := rfl
end Go.Proofs.YtmbifmmkccghfaaGreat
namespace Go.Proofs.YtmbifmmkccghfaaGreat
open Go.RowKit Go.Shelf
theorem yieldAt_roundK {α : Type} {F : Fence} {n : Nat} {P : Program} {B l D' : Nat} {Kp : World → World → Prop} (hKt : ∀ A B C : World, Kp A B → Kp B C → Kp A C) (hKb : ∀ (W : World) (l : Nat) (o o' : Obj), B ≤ l → W.heap[l]? = some o → o.isCells = false → Kp W (W.putObj l o')) (hB : B ≤ l) {fn : FuncId} {tmps : Array Value} {ps : Array Tmp} {assign body : Code} (hfn : F.fn fn)
    {I : List α → World → Prop} {Ix : Code → List α → World → Prop} {xs : List α} {vs : Array Value} {Ax : Act → World → Prop} {W : World} {rec : LoopState → Option Code → Loop}
    (hrec : rec = fun st pe => { state := st, pending := pe, fn, tmps, params := ps, assign, body, defers := D' })
    (hI : ∀ A o, I xs A → I xs (A.putObj l o)) (hIx : ∀ c A o, Ix c xs A → Ix c xs (A.putObj l o)) (hvs : vs.size = ps.size)
    (hl : W.heap[l]? = some (.loop (rec .ready none)))
    (hassign : ∀ K : Act → World → Prop, (∀ a' W', KeepsFrom B W W' → Kp W W' → Ax a' W' → K a' W') → assign.wpIn (F.inRound l) n P (Exit.then K (fun _ _ _ => False)) { tmps := (ps.zip vs).foldl (fun t (p, v) => t.setIfInBounds p v) tmps, defers := [] } W)
    (hbody : ∀ a' A, Ax a' A → A.heap[l]? = some (.loop (rec .ready none)) → body.wpIn (F.inRound l) n P (ownPostG B Kp I Ix xs (A.putObj l (.loop { rec .ready none with state := .busy }))) a' (A.putObj l (.loop { rec .ready none with state := .busy }))) :
    YieldAt F n P l vs W fun e W' => (e = .returned (.bool true) ∧ (I xs W' ∧ W'.heap[l]? = some (.loop (rec .ready none)) ∧ ∀ k o, B ≤ k → k ≠ l → W.heap[k]? = some o → o.isCells = false → W'.heap[k]? = some o) ∧ Kp W W') ∨
      (e = .returned (.bool false) ∧ ∃ c, Ix c xs W' ∧ W'.heap[l]? = some (.loop (rec .done (some c))) ∧ ∀ k o, B ≤ k → k ≠ l → W.heap[k]? = some o → o.isCells = false → W'.heap[k]? = some o) := by
  have hy := run_yield (P := P) (args := vs) hl (by rw [hrec]; exact hvs)
  rw [hrec] at hy
  refine ⟨fn, _, assign, body, hy, roundIn_of_wpIn hfn (hassign _ ?_)⟩
  intro a' Wa hkf hkc hax
  have hla := hkf.same _ _ hB hl rfl
  have hlt : l < Wa.heap.size := (Array.getElem?_eq_some_iff.1 hla).1
  refine ⟨_, run_beginRound hla (by rw [hrec]), wpIn_mono (hbody a' Wa hax hla) ?_⟩
  have hl2 : (Wa.putObj l (.loop { rec .ready none with state := .busy })).heap[l]? = some (.loop { rec .ready none with state := .busy }) := World.putObj_heap_same hlt
  have hk2 : Kp W (Wa.putObj l (.loop { rec .ready none with state := .busy })) := hKt _ _ _ hkc (hKb _ _ _ _ hB hla rfl)
  have fin : ∀ (jump : Option Code) (W3 : World), KeepsFrom B (Wa.putObj l (.loop { rec .ready none with state := .busy })) W3 →
      (Instr.endRound l jump).run P W3 = .ok (.bool jump.isNone) (W3.putObj l (.loop (rec (if jump.isNone then .ready else .done) jump))) ∧
      W3.heap[l]? = some (.loop { rec .ready none with state := .busy }) ∧
      (W3.putObj l (.loop (rec (if jump.isNone then .ready else .done) jump))).heap[l]? = some (.loop (rec (if jump.isNone then .ready else .done) jump)) ∧
      (∀ k o, B ≤ k → k ≠ l → W.heap[k]? = some o → o.isCells = false → (W3.putObj l (.loop (rec (if jump.isNone then .ready else .done) jump))).heap[k]? = some o) := by
    intro jump W3 hk3
    have hl3 := hk3.same _ _ hB hl2 rfl
    have he := run_endRound (P := P) jump hl3
    rw [hrec] at he ⊢
    refine ⟨he, by rw [hrec] at hl3; exact hl3, World.putObj_heap_same (Array.getElem?_eq_some_iff.1 hl3).1, fun k o hk hkl ho hc => ?_⟩
    refine (World.putObj_heap_other hkl).trans (hk3.same k o hk ?_ hc)
    exact (World.putObj_heap_other hkl).trans (hkf.same k o hk ho hc)
  rintro e a3 W3 hp
  cases e with
  | normal =>
    obtain ⟨hk3, hkp3, hi3⟩ := hp
    obtain ⟨hr, hl3, hl4, hk4⟩ := fin none W3 hk3
    exact ⟨_, _, hr, .inl ⟨rfl, ⟨hI _ _ hi3, hl4, hk4⟩, hKt _ _ _ hk2 (hKt _ _ _ hkp3 (hKb _ _ _ _ hB hl3 rfl))⟩⟩
  | ret =>
    obtain ⟨hk3, hi3⟩ := hp
    obtain ⟨hr, hl3, hl4, hk4⟩ := fin (some .ret) W3 hk3
    exact ⟨_, _, hr, .inr ⟨rfl, .ret, hIx _ _ _ hi3, hl4, hk4⟩⟩
  | exit id =>
    obtain ⟨hk3, hi3⟩ := hp
    obtain ⟨hr, hl3, hl4, hk4⟩ := fin (some (.exit id)) W3 hk3
    exact ⟨_, _, hr, .inr ⟨rfl, .exit id, hIx _ _ _ hi3, hl4, hk4⟩⟩
  | goto t =>
    obtain ⟨hk3, hi3⟩ := hp
    obtain ⟨hr, hl3, hl4, hk4⟩ := fin (some (.goto t)) W3 hk3
    exact ⟨_, _, hr, .inr ⟨rfl, .goto t, hIx _ _ _ hi3, hl4, hk4⟩⟩
  | panic ch => exact hp.elim
  | outgrown => exact hp.elim
theorem wpIn_rangeK_out {α : Type} {F : Fence} {n : Nat} {P : Program} {g : Operand} {ps : Array Tmp} {assign body : Code} {Q : Exit → Act → World → Prop} {a : Act} {w : World}
    (hro : F.round = none) (h1 : 1 ≤ n) {gf : Nat} {lb : Array Value} (hg : a.eval g = .func (.func gf) #[] lb) (hFg : F.fn gf) (eg : ∀ args w, (callFunc gf args).run P w = .ok (.enter gf args) w)
    {encs : α → Array Value} {Kp : World → World → Prop} (hKt : ∀ A B C : World, Kp A B → Kp B C → Kp A C) (hKb : ∀ (W : World) (l : Nat) (o o' : Obj), w.heap.size ≤ l → W.heap[l]? = some o → o.isCells = false → Kp W (W.putObj l o')) {S Sp : List α → Prop} {T : List α → α → Prop} {w0 : World} (hseq : SeqB F (n - 1) P gf lb encs Kp S Sp T w0) (hb0 : Below w0.heap.size w0 w) (hps : ∀ x, (encs x).size = ps.size)
    (I : List α → World → Prop) (Ix : Code → List α → World → Prop) (hI : ∀ s A B, I s A → Below w.heap.size A B → I s B) (hIx : ∀ c s A B, Ix c s A → Below w.heap.size A B → Ix c s B) (h0 : I [] w)
    (Ax : List α → α → Act → World → Prop) (hAx : ∀ pre x a' A l o o', w.heap.size ≤ l → A.heap[l]? = some o → o.isCells = false → Ax pre x a' A → Ax pre x a' (A.putObj l o'))
    (hassign : ∀ (l : Nat) (pre : List α) (x : α) (W : World) (K : Act → World → Prop), I pre W → T pre x → (∀ a' W', KeepsFrom w.heap.size W W' → Kp W W' → Ax pre x a' W' → K a' W') →
      assign.wpIn (F.inRound l) (n - 1 - 1) P (Exit.then K (fun _ _ _ => False)) { tmps := (ps.zip (encs x)).foldl (fun t (p, v) => t.setIfInBounds p v) a.tmps, defers := [] } W)
    (hbody : ∀ (l : Nat) (pre : List α) (x : α) (a' : Act) (W : World), w.heap.size ≤ l → (∃ r, W.heap[l]? = some (.loop r)) → Ax pre x a' W → body.wpIn (F.inRound l) (n - 1 - 1) P (ownPostG w.heap.size Kp I Ix (pre ++ [x]) W) a' W)
    (hdone : ∀ (E : Nat) (xs : List α) (W : World), w.heap.size ≤ E → S xs → I xs W → W.heap[E]? = some (.deferred (some [])) → Q .normal { a with defers := { target := .collected E, args := #[] } :: a.defers } W)
    (hstop : ∀ (E : Nat) (c : Code) (pre : List α) (W : World), w.heap.size ≤ E → Sp pre → Ix c pre W → W.heap[E]? = some (.deferred (some [])) → c.wpIn F n P Q { a with defers := { target := .collected E, args := #[] } :: a.defers } W) :
    (Code.rangeFunc g ps assign body).wpIn F n P Q a w := by
  refine wpIn_rangeFunc ?_
  intro fn hfn
  rw [hro]
  obtain ⟨rec, hrec⟩ : ∃ rec : LoopState → Option Code → Loop, rec = fun st pe => { state := st, pending := pe, fn, tmps := a.tmps, params := ps, assign, body, defers := w.heap.size } := ⟨_, rfl⟩
  obtain ⟨W1, hW1⟩ : ∃ W1, (w.alloc (.deferred (some []))).alloc (.loop (rec .ready none)) = W1 := ⟨_, rfl⟩
  have hL1 : W1.heap[w.heap.size + 1]? = some (.loop (rec .ready none)) := by
    rw [← hW1]; have := World.alloc_heap_new (w.alloc (.deferred (some []))) (.loop (rec .ready none)); rwa [World.size_alloc] at this
  have hK1 : W1.heap[w.heap.size]? = some (.deferred (some [])) := by
    rw [← hW1]; exact (Below.heap_alloc _ _ _ (by simp)).trans (World.alloc_heap_new w _)
  have hb1 : Below w.heap.size w W1 := by
    rw [← hW1]; exact ((Below.refl _ w).alloc (Nat.le_refl _) _).alloc (by simp) _
  have hs1 : w.heap.size + 1 < W1.heap.size := (Array.getElem?_eq_some_iff.1 hL1).1
  refine ⟨w.heap.size + 1, [{ target := .collected w.heap.size, args := #[] }], W1, { target := .fn (.func gf) lb, args := #[.func (.yield (w.heap.size + 1)) #[] #[]] }, W1, gf,
    #[.func (.yield (w.heap.size + 1)) #[] #[]] ++ lb, W1, ?_, ?_, ?_, ?_, fun _ => h1, ?_⟩
  · rw [← hW1, hrec]; exact run_enterLoop_outer _ _ _ _ _
  · simp only [resolve, hg]
    simp [go_sem]
  · intro f' hf'; simp [Target.leads] at hf'; subst hf'; exact hFg
  · simp [invoke, go_sem, eg]
  · refine (hseq (w.heap.size + 1)
      (fun pre W => I pre W ∧ W.heap[w.heap.size + 1]? = some (.loop (rec .ready none)) ∧ W.heap[w.heap.size]? = some (.deferred (some [])))
      (fun pre W => ∃ c, Ix c pre W ∧ W.heap[w.heap.size + 1]? = some (.loop (rec .done (some c))) ∧ W.heap[w.heap.size]? = some (.deferred (some [])))
      W1 (hb0.trans (hb1.mono hb0.size)) ?_ ?_ ?_ ⟨hI _ _ _ h0 hb1, hL1, hK1⟩).mono ?_
    · rintro s A B ⟨h1, h2, h3⟩ hb
      exact ⟨hI _ _ _ h1 (hb.mono hb1.size), (hb.block _ hs1).trans h2, (hb.block _ (by omega)).trans h3⟩
    · rintro s A B ⟨c, h1, h2, h3⟩ hb
      exact ⟨c, hIx _ _ _ _ h1 (hb.mono hb1.size), (hb.block _ hs1).trans h2, (hb.block _ (by omega)).trans h3⟩
    · rintro pre x W ⟨hi, hl, hk⟩ hlen
      refine (yieldAt_roundK (Ax := Ax pre x) (I := I) (Ix := Ix) (xs := pre ++ [x]) (D' := w.heap.size) hKt hKb (Nat.le_succ _) hfn hrec (fun A o h => hI _ _ _ h (below_put3 (Nat.le_succ _) o)) (fun c A o h => hIx _ _ _ _ h (below_put3 (Nat.le_succ _) o)) (hps x) hl
        (fun K hK => hassign _ pre x W K hi hlen hK) (fun a' A hax hla => hbody _ pre x a' _ (Nat.le_succ _) ⟨_, World.putObj_heap_same (Array.getElem?_eq_some_iff.1 hla).1⟩ (hAx _ _ _ _ _ _ _ (Nat.le_succ _) hla rfl hax))).mono ?_
      rintro e W' (⟨rfl, ⟨h1, h2, h3⟩, h4⟩ | ⟨rfl, c, h1, h2, h3⟩)
      · exact .inl ⟨rfl, ⟨h1, h2, h3 _ _ (Nat.le_refl _) (by omega) hk rfl⟩, h4⟩
      · exact .inr ⟨rfl, c, h1, h2, h3 _ _ (Nat.le_refl _) (by omega) hk rfl⟩
    · rintro e W2 ⟨⟨v, rfl⟩, (⟨xs, hS, hi, hl, hk⟩ | ⟨pre, hSp, c, hi, hl, hk⟩)⟩
      · exact ⟨none, _, by have := run_endLoop (P := P) hl (by rw [hrec]; simp); rw [hrec] at this; exact this, hdone _ xs _ (Nat.le_refl _) hS (hI _ _ _ hi (below_put3 (Nat.le_succ _) _)) ((World.putObj_heap_other (by omega)).trans hk)⟩
      · exact ⟨some c, _, by have := run_endLoop (P := P) hl (by rw [hrec]; simp); rw [hrec] at this; exact this, hstop _ c pre _ (Nat.le_refl _) hSp (hIx _ _ _ _ hi (below_put3 (Nat.le_succ _) _)) ((World.putObj_heap_other (by omega)).trans hk)⟩
end Go.Proofs.YtmbifmmkccghfaaGreat
namespace Go.Proofs.YtmbifmmkccghfaaGreat
open Go.RowKit
def OwnE {α : Type} (enc : α → List Value) (size : Nat) (w : World) (base e : Nat) (V : Value) (l : List α) : Prop := w.ownsRow base e size V l.length (l.flatMap enc)
section
variable {α : Type} {enc : α → List Value} {size : Nat} {w w' : World} {base t e : Nat} {V : Value} {l : List α}
theorem ownE_nil (enc : α → List Value) (size : Nat) (w : World) (base e : Nat) : OwnE enc size w base e (.slice none 0 0) ([] : List α) := ⟨by simp, .inl ⟨rfl, rfl⟩⟩
theorem OwnE.later (h : OwnE enc size w base e V l) (hb : Below w.heap.size w w') : OwnE enc size w' base e V l :=
  World.ownsRow.kept h (row := none) ⟨hb.os, hb.tape, hb.output, hb.size, fun i hi _ => hb.block i hi⟩ (by rcases V.ownBlock with _ | _ <;> simp)
theorem OwnE.set (h : OwnE enc size w base e V l) {a : Addr} (ha : a.block < base) (u : Value) : OwnE enc size (w.setCell a u) base e V l := by
  refine World.ownsRow.kept h (row := some a.block) ⟨rfl, rfl, rfl, by simp, fun i _ hi => Below.heap_setCell w a u i (fun e => hi (by rw [e]))⟩ ?_
  refine .inr fun hk => ?_
  have := World.ownsRow.lt h _ hk
  omega
theorem OwnE.drew (h : OwnE enc size w base e V l) : OwnE enc size w.drew base e V l := h.later ((Below.refl _ _).drew)
theorem flatMap_at {enc : α → List Value} {size : Nat} (hs : ∀ x, (enc x).length = size) : ∀ (l : List α) (k j : Nat) (hk : k < l.length), j < size → (l.flatMap enc)[k * size + j]? = (enc l[k])[j]?
  | [], k, _, hk, _ => absurd hk (Nat.not_lt_zero k)
  | x :: l, 0, j, _, hj => by
    rw [List.flatMap_cons, Nat.zero_mul, Nat.zero_add, List.getElem?_append_left (by rw [hs]; exact hj)]
    rfl
  | x :: l, k + 1, j, hk, hj => by
    rw [List.flatMap_cons, List.getElem?_append_right (by rw [hs, Nat.add_mul]; omega), hs, show (k + 1) * size + j - size = k * size + j by rw [Nat.add_mul]; omega]
    exact flatMap_at hs l k j (by simpa using hk) hj
theorem OwnE.sl (h : OwnE enc size w base e V l) (hs : ∀ x, (enc x).length = size) : ∃ A c, V = .slice A l.length c ∧ ∀ k (hk : k < l.length), ∃ b, A = some ⟨b, 0, none⟩ ∧ base ≤ b ∧ b < w.heap.size ∧ ∀ j, j < size → w.cell? ⟨b, k * size + j, none⟩ = (enc l[k])[j]? := by
  have hc := h.2
  rcases hc with ⟨rfl, hl⟩ | ⟨b, cap, cur, hv, hb, hg, hcap, hcm, _⟩
  · exact ⟨none, 0, by rw [hl], fun k hk => by omega⟩
  · refine ⟨some ⟨b, 0, none⟩, cap, hv, fun k hk => ⟨b, rfl, hb, (Array.getElem?_eq_some_iff.1 hg).1, fun j hj => ?_⟩⟩
    have e1 := flatMap_at hs l k j hk hj
    have hlt : j < (enc l[k]).length := by rw [hs]; exact hj
    rw [List.getElem?_eq_getElem hlt] at e1 ⊢
    have := World.ownsRow.cells h (g := b) (by rw [hv]; rfl) _ _ e1
    rw [add_at, Nat.zero_add] at this
    exact this
theorem OwnE.grown {B : Nat} {a : World} (h : OwnE enc size w base e V l) (hg : w.grownBy w' V.ownBlock) (hB : B ≤ base) (hb : Below B a w) (hs : B ≤ w.heap.size) : Below B a w' :=
  hb.grown hg hs (fun k hk => by have := World.ownsRow.lt h k hk; omega)
theorem box_grown {b : Nat} {xs : List Value} (h : OwnE enc size w base e V l) (hg : w.grownBy w' V.ownBlock) (hx : Box w b xs) (hb : b < base) : Box w' b xs := by
  obtain ⟨t, ht⟩ := hx
  refine ⟨t, (hg.block b (Array.getElem?_eq_some_iff.1 ht).1 (fun e => ?_)).trans ht⟩
  have := World.ownsRow.lt h b e.symm
  omega
theorem run_appE {i : TypeInfo} {z : Value} {bytes : Nat} (E : Elem t e i z size bytes) (hs : ∀ x, (enc x).length = size) (h1 : ∀ x, ∀ u ∈ enc x, u.oneCell' = true) (hby : bytes ≤ 1000) (x : α) {g : Nat} (ty : TypeId) (ho : OwnE enc size w base e V l) (hx : Box w g (enc x)) (hbase : base ≤ w.heap.size) (hl : l.length ≤ 1048576) :
    ∃ g' c' w', (appF #[t, t] ty #[V, .slice (some ⟨g, 0, none⟩) 1 1]).run Tryz.prog w = .ok (.slice (some ⟨g', 0, none⟩) (l.length + 1) c') w' ∧ OwnE enc size w' base e (.slice (some ⟨g', 0, none⟩) (l.length + 1) c') (l ++ [x]) ∧ w.grownBy w' V.ownBlock := by
  obtain ⟨v', w', hr, h3, h2, _, _⟩ := run_append_own_at (P := Tryz.prog) w base t ty e i _ size bytes E.ht E.hi E.hz E.hsize E.hby E.hzs E.hsz _ _ _ ho ⟨g, 0, none⟩ 1 1 (enc x) (by rw [hs, Nat.one_mul])
    (fun j u hu => by
      rw [add_at, Nat.zero_add, hx.cell j]
      exact hu)
    (h1 x) (by simp only [maxLen]; omega) (by have := Nat.mul_le_mul_left (l.length + 1) hby; omega) hbase
  have h5 := h3.2
  rcases h5 with ⟨_, h6⟩ | ⟨g', cap, cur, hv, _⟩
  · omega
  · subst hv
    refine ⟨g', cap, w', hr, ?_, h2⟩
    rw [OwnE, List.length_append, List.flatMap_append]
    simpa using h3
end
end Go.Proofs.YtmbifmmkccghfaaGreat
namespace Go.Proofs.YtmbifmmkccghfaaGreat
open Go.RowKit Go.Shelf
def SeqN {α : Type} (F : Fence) (n : Nat) (P : Program) (g : Nat) (lb : Array Value) (encs : α → Array Value) (Kp : World → World → Prop) (S Sp : List α → Prop) (T : List α → α → Prop) (w : World) : Prop :=
  ∀ (l : Nat) (J Jx : List α → World → Prop) (W : World), Below w.heap.size w W →
    (∀ pre x W1, J pre W1 → T pre x → YieldAt F (n - 1) P l (encs x) W1 fun e W' =>
      (e = .returned (.bool true) ∧ J (pre ++ [x]) W' ∧ Kp W1 W') ∨ (e = .returned (.bool false) ∧ Jx (pre ++ [x]) W')) →
    J [] W →
    CallsIn F n P g (#[.func (.yield l) #[] #[]] ++ lb) W fun e W' => (∃ v, e = .returned v) ∧ ((∃ xs, S xs ∧ J xs W') ∨ (∃ pre, Sp pre ∧ Jx pre W'))
theorem SeqN.toB {α : Type} {F : Fence} {n : Nat} {P : Program} {g : Nat} {lb : Array Value} {encs : α → Array Value} {Kp : World → World → Prop} {S Sp : List α → Prop} {T : List α → α → Prop} {w : World} (h : SeqN F n P g lb encs Kp S Sp T w) : SeqB F n P g lb encs Kp S Sp T w := fun l J Jx W hW _ _ hY h0 => h l J Jx W hW hY h0
theorem yieldAt_roundN {α : Type} {F : Fence} {n : Nat} {P : Program} {B l D' : Nat} {Kp : World → World → Prop} (hKt : ∀ A B C : World, Kp A B → Kp B C → Kp A C) (hKb : ∀ (W : World) (l : Nat) (o o' : Obj), B ≤ l → W.heap[l]? = some o → o.isCells = false → Kp W (W.putObj l o')) (hB : B ≤ l) {fn : FuncId} {tmps : Array Value} {ps : Array Tmp} {assign body : Code} (hfn : F.fn fn)
    {I : List α → World → Prop} {Ix : Code → List α → World → Prop} {xs : List α} {vs : Array Value} {Ax : Act → World → Prop} {W : World} {rec : LoopState → Option Code → Loop}
    (hrec : rec = fun st pe => { state := st, pending := pe, fn, tmps, params := ps, assign, body, defers := D' })
    (hI : ∀ A o r, A.heap[l]? = some (.loop r) → I xs A → I xs (A.putObj l o)) (hIx : ∀ c A o r, A.heap[l]? = some (.loop r) → Ix c xs A → Ix c xs (A.putObj l o)) (hvs : vs.size = ps.size)
    (hl : W.heap[l]? = some (.loop (rec .ready none)))
    (hassign : ∀ K : Act → World → Prop, (∀ a' W', KeepsFrom B W W' → Kp W W' → Ax a' W' → K a' W') → assign.wpIn (F.inRound l) n P (Exit.then K (fun _ _ _ => False)) { tmps := (ps.zip vs).foldl (fun t (p, v) => t.setIfInBounds p v) tmps, defers := [] } W)
    (hbody : ∀ a' A, Ax a' A → A.heap[l]? = some (.loop (rec .ready none)) → body.wpIn (F.inRound l) n P (ownPostG B Kp I Ix xs (A.putObj l (.loop { rec .ready none with state := .busy }))) a' (A.putObj l (.loop { rec .ready none with state := .busy }))) :
    YieldAt F n P l vs W fun e W' => (e = .returned (.bool true) ∧ (I xs W' ∧ W'.heap[l]? = some (.loop (rec .ready none)) ∧ ∀ k o, B ≤ k → k ≠ l → W.heap[k]? = some o → o.isCells = false → W'.heap[k]? = some o) ∧ Kp W W') ∨
      (e = .returned (.bool false) ∧ ∃ c, Ix c xs W' ∧ W'.heap[l]? = some (.loop (rec .done (some c))) ∧ ∀ k o, B ≤ k → k ≠ l → W.heap[k]? = some o → o.isCells = false → W'.heap[k]? = some o) := by
  have hy := run_yield (P := P) (args := vs) hl (by rw [hrec]; exact hvs)
  rw [hrec] at hy
  refine ⟨fn, _, assign, body, hy, roundIn_of_wpIn hfn (hassign _ ?_)⟩
  intro a' Wa hkf hkc hax
  have hla := hkf.same _ _ hB hl rfl
  have hlt : l < Wa.heap.size := (Array.getElem?_eq_some_iff.1 hla).1
  refine ⟨_, run_beginRound hla (by rw [hrec]), wpIn_mono (hbody a' Wa hax hla) ?_⟩
  have hl2 : (Wa.putObj l (.loop { rec .ready none with state := .busy })).heap[l]? = some (.loop { rec .ready none with state := .busy }) := World.putObj_heap_same hlt
  have hk2 : Kp W (Wa.putObj l (.loop { rec .ready none with state := .busy })) := hKt _ _ _ hkc (hKb _ _ _ _ hB hla rfl)
  have fin : ∀ (jump : Option Code) (W3 : World), KeepsFrom B (Wa.putObj l (.loop { rec .ready none with state := .busy })) W3 →
      (Instr.endRound l jump).run P W3 = .ok (.bool jump.isNone) (W3.putObj l (.loop (rec (if jump.isNone then .ready else .done) jump))) ∧
      W3.heap[l]? = some (.loop { rec .ready none with state := .busy }) ∧
      (W3.putObj l (.loop (rec (if jump.isNone then .ready else .done) jump))).heap[l]? = some (.loop (rec (if jump.isNone then .ready else .done) jump)) ∧
      (∀ k o, B ≤ k → k ≠ l → W.heap[k]? = some o → o.isCells = false → (W3.putObj l (.loop (rec (if jump.isNone then .ready else .done) jump))).heap[k]? = some o) := by
    intro jump W3 hk3
    have hl3 := hk3.same _ _ hB hl2 rfl
    have he := run_endRound (P := P) jump hl3
    rw [hrec] at he ⊢
    refine ⟨he, by rw [hrec] at hl3; exact hl3, World.putObj_heap_same (Array.getElem?_eq_some_iff.1 hl3).1, fun k o hk hkl ho hc => ?_⟩
    refine (World.putObj_heap_other hkl).trans (hk3.same k o hk ?_ hc)
    exact (World.putObj_heap_other hkl).trans (hkf.same k o hk ho hc)
  rintro e a3 W3 hp
  cases e with
  | normal =>
    obtain ⟨hk3, hkp3, hi3⟩ := hp
    obtain ⟨hr, hl3, hl4, hk4⟩ := fin none W3 hk3
    exact ⟨_, _, hr, .inl ⟨rfl, ⟨hI _ _ _ hl3 hi3, hl4, hk4⟩, hKt _ _ _ hk2 (hKt _ _ _ hkp3 (hKb _ _ _ _ hB hl3 rfl))⟩⟩
  | ret =>
    obtain ⟨hk3, hi3⟩ := hp
    obtain ⟨hr, hl3, hl4, hk4⟩ := fin (some .ret) W3 hk3
    exact ⟨_, _, hr, .inr ⟨rfl, .ret, hIx _ _ _ _ hl3 hi3, hl4, hk4⟩⟩
  | exit id =>
    obtain ⟨hk3, hi3⟩ := hp
    obtain ⟨hr, hl3, hl4, hk4⟩ := fin (some (.exit id)) W3 hk3
    exact ⟨_, _, hr, .inr ⟨rfl, .exit id, hIx _ _ _ _ hl3 hi3, hl4, hk4⟩⟩
  | goto t =>
    obtain ⟨hk3, hi3⟩ := hp
    obtain ⟨hr, hl3, hl4, hk4⟩ := fin (some (.goto t)) W3 hk3
    exact ⟨_, _, hr, .inr ⟨rfl, .goto t, hIx _ _ _ _ hl3 hi3, hl4, hk4⟩⟩
  | panic ch => exact hp.elim
  | outgrown => exact hp.elim
theorem wpIn_rangeN_out {α : Type} {F : Fence} {n : Nat} {P : Program} {g : Operand} {ps : Array Tmp} {assign body : Code} {Q : Exit → Act → World → Prop} {a : Act} {w : World}
    (hro : F.round = none) (h1 : 1 ≤ n) {gf : Nat} {lb : Array Value} (hg : a.eval g = .func (.func gf) #[] lb) (hFg : F.fn gf) (eg : ∀ args w, (callFunc gf args).run P w = .ok (.enter gf args) w)
    {encs : α → Array Value} {Kp : World → World → Prop} (hKt : ∀ A B C : World, Kp A B → Kp B C → Kp A C) (hKb : ∀ (W : World) (l : Nat) (o o' : Obj), w.heap.size ≤ l → W.heap[l]? = some o → o.isCells = false → Kp W (W.putObj l o')) {S Sp : List α → Prop} {T : List α → α → Prop} {w0 : World} (hseq : SeqN F (n - 1) P gf lb encs Kp S Sp T w0) (hb0 : Below w0.heap.size w0 w) (hps : ∀ x, (encs x).size = ps.size)
    (I : List α → World → Prop) (Ix : Code → List α → World → Prop) (hI : ∀ s A l o r, w.heap.size ≤ l → A.heap[l]? = some (.loop r) → I s A → I s (A.putObj l o)) (hIx : ∀ c s A l o r, w.heap.size ≤ l → A.heap[l]? = some (.loop r) → Ix c s A → Ix c s (A.putObj l o)) (h0 : ∀ W, Below w.heap.size w W → I [] W)
    (Ax : List α → α → Act → World → Prop) (hAx : ∀ pre x a' A l o o', w.heap.size ≤ l → A.heap[l]? = some o → o.isCells = false → Ax pre x a' A → Ax pre x a' (A.putObj l o'))
    (hassign : ∀ (l : Nat) (pre : List α) (x : α) (W : World) (K : Act → World → Prop), I pre W → T pre x → (∀ a' W', KeepsFrom w.heap.size W W' → Kp W W' → Ax pre x a' W' → K a' W') →
      assign.wpIn (F.inRound l) (n - 1 - 1) P (Exit.then K (fun _ _ _ => False)) { tmps := (ps.zip (encs x)).foldl (fun t (p, v) => t.setIfInBounds p v) a.tmps, defers := [] } W)
    (hbody : ∀ (l : Nat) (pre : List α) (x : α) (a' : Act) (W : World), w.heap.size ≤ l → (∃ r, W.heap[l]? = some (.loop r)) → Ax pre x a' W → body.wpIn (F.inRound l) (n - 1 - 1) P (ownPostG w.heap.size Kp I Ix (pre ++ [x]) W) a' W)
    (hdone : ∀ (E : Nat) (xs : List α) (W : World), w.heap.size ≤ E → S xs → I xs W → W.heap[E]? = some (.deferred (some [])) → Q .normal { a with defers := { target := .collected E, args := #[] } :: a.defers } W)
    (hstop : ∀ (E : Nat) (c : Code) (pre : List α) (W : World), w.heap.size ≤ E → Sp pre → Ix c pre W → W.heap[E]? = some (.deferred (some [])) → c.wpIn F n P Q { a with defers := { target := .collected E, args := #[] } :: a.defers } W) :
    (Code.rangeFunc g ps assign body).wpIn F n P Q a w := by
  refine wpIn_rangeFunc ?_
  intro fn hfn
  rw [hro]
  obtain ⟨rec, hrec⟩ : ∃ rec : LoopState → Option Code → Loop, rec = fun st pe => { state := st, pending := pe, fn, tmps := a.tmps, params := ps, assign, body, defers := w.heap.size } := ⟨_, rfl⟩
  obtain ⟨W1, hW1⟩ : ∃ W1, (w.alloc (.deferred (some []))).alloc (.loop (rec .ready none)) = W1 := ⟨_, rfl⟩
  have hL1 : W1.heap[w.heap.size + 1]? = some (.loop (rec .ready none)) := by
    rw [← hW1]; have := World.alloc_heap_new (w.alloc (.deferred (some []))) (.loop (rec .ready none)); rwa [World.size_alloc] at this
  have hK1 : W1.heap[w.heap.size]? = some (.deferred (some [])) := by
    rw [← hW1]; exact (Below.heap_alloc _ _ _ (by simp)).trans (World.alloc_heap_new w _)
  have hb1 : Below w.heap.size w W1 := by
    rw [← hW1]; exact ((Below.refl _ w).alloc (Nat.le_refl _) _).alloc (by simp) _
  have hs1 : w.heap.size + 1 < W1.heap.size := (Array.getElem?_eq_some_iff.1 hL1).1
  refine ⟨w.heap.size + 1, [{ target := .collected w.heap.size, args := #[] }], W1, { target := .fn (.func gf) lb, args := #[.func (.yield (w.heap.size + 1)) #[] #[]] }, W1, gf,
    #[.func (.yield (w.heap.size + 1)) #[] #[]] ++ lb, W1, ?_, ?_, ?_, ?_, fun _ => h1, ?_⟩
  · rw [← hW1, hrec]; exact run_enterLoop_outer _ _ _ _ _
  · simp only [resolve, hg]
    simp [go_sem]
  · intro f' hf'; simp [Target.leads] at hf'; subst hf'; exact hFg
  · simp [invoke, go_sem, eg]
  · refine (hseq (w.heap.size + 1)
      (fun pre W => I pre W ∧ W.heap[w.heap.size + 1]? = some (.loop (rec .ready none)) ∧ W.heap[w.heap.size]? = some (.deferred (some [])))
      (fun pre W => ∃ c, Ix c pre W ∧ W.heap[w.heap.size + 1]? = some (.loop (rec .done (some c))) ∧ W.heap[w.heap.size]? = some (.deferred (some [])))
      W1 (hb0.trans (hb1.mono hb0.size)) ?_ ⟨h0 _ hb1, hL1, hK1⟩).mono ?_
    · rintro pre x W ⟨hi, hl, hk⟩ hlen
      refine (yieldAt_roundN (Ax := Ax pre x) (I := I) (Ix := Ix) (xs := pre ++ [x]) (D' := w.heap.size) hKt hKb (Nat.le_succ _) hfn hrec (fun A o r hr h => hI _ _ _ _ _ (Nat.le_succ _) hr h) (fun c A o r hr h => hIx _ _ _ _ _ _ (Nat.le_succ _) hr h) (hps x) hl
        (fun K hK => hassign _ pre x W K hi hlen hK) (fun a' A hax hla => hbody _ pre x a' _ (Nat.le_succ _) ⟨_, World.putObj_heap_same (Array.getElem?_eq_some_iff.1 hla).1⟩ (hAx _ _ _ _ _ _ _ (Nat.le_succ _) hla rfl hax))).mono ?_
      rintro e W' (⟨rfl, ⟨h1, h2, h3⟩, h4⟩ | ⟨rfl, c, h1, h2, h3⟩)
      · exact .inl ⟨rfl, ⟨h1, h2, h3 _ _ (Nat.le_refl _) (by omega) hk rfl⟩, h4⟩
      · exact .inr ⟨rfl, c, h1, h2, h3 _ _ (Nat.le_refl _) (by omega) hk rfl⟩
    · rintro e W2 ⟨⟨v, rfl⟩, (⟨xs, hS, hi, hl, hk⟩ | ⟨pre, hSp, c, hi, hl, hk⟩)⟩
      · exact ⟨none, _, by have := run_endLoop (P := P) hl (by rw [hrec]; simp); rw [hrec] at this; exact this, hdone _ xs _ (Nat.le_refl _) hS (hI _ _ _ _ _ (Nat.le_succ _) hl hi) ((World.putObj_heap_other (by omega)).trans hk)⟩
      · exact ⟨some c, _, by have := run_endLoop (P := P) hl (by rw [hrec]; simp); rw [hrec] at this; exact this, hstop _ c pre _ (Nat.le_refl _) hSp (hIx _ _ _ _ _ _ (Nat.le_succ _) hl hi) ((World.putObj_heap_other (by omega)).trans hk)⟩
section
variable {α : Type} {enc : α → List Value} {size : Nat} {w w' : World} {base e : Nat} {V : Value} {l : List α}
theorem OwnE.cellsAt (h : OwnE enc size w base e V l) {k : Nat} (hk : V.ownBlock = some k) {o : Obj} (ho : w.heap[k]? = some o) : o.isCells = true := by
  rcases h.2 with ⟨rfl, _⟩ | ⟨b, cap, cur, rfl, _, hg, _⟩
  · cases hk
  · obtain rfl : b = k := Option.some.inj hk
    rw [hg] at ho
    cases ho
    rfl
theorem OwnE.record (h : OwnE enc size w base e V l) {k : Nat} {o : Obj} (hl : w.heap[k]? = some o) (hc : o.isCells = false) (o' : Obj) : OwnE enc size (w.putObj k o') base e V l := by
  refine World.ownsRow.kept h (row := some k) ⟨rfl, rfl, rfl, by simp, fun i _ hi => World.putObj_heap_other (fun e => hi (by rw [e]))⟩ ?_
  refine .inr fun hk => ?_
  have := OwnE.cellsAt h hk hl
  rw [hc] at this
  cases this
theorem OwnE.kfGrown (h : OwnE enc size w base e V l) (hg : w.grownBy w' V.ownBlock) (B : Nat) : KeepsFrom B w w' :=
  ⟨hg.size, fun k o _ hk hc => (hg.block k (Array.getElem?_eq_some_iff.1 hk).1 (fun e => by have := OwnE.cellsAt h e.symm hk; rw [hc] at this; cases this)).trans hk⟩
theorem OwnE.kcGrown {D : Nat} {R : Nat → Prop} (h : OwnE enc size w base e V l) (hg : w.grownBy w' V.ownBlock) (hD : D ≤ base) (hs : D ≤ w.heap.size) (hR : ∀ b, base ≤ b → R b) : KeepsC D R w w' :=
  ⟨(Below.refl D w).grown hg hs (fun k hk => by have := World.ownsRow.lt h k hk; omega), fun b o hr ho _ => (hg.block b (Array.getElem?_eq_some_iff.1 ho).1 (fun e => hr (hR b (by have := World.ownsRow.lt h b e.symm; omega)))).trans ho⟩
theorem KeepsFrom.ofBelow {D : Nat} {A B : World} (h : Below A.heap.size A B) : KeepsFrom D A B := ⟨h.size, fun b _ _ ho _ => (h.block b (Array.getElem?_eq_some_iff.1 ho).1).trans ho⟩
theorem KeepsFrom.ofBox {D : Nat} {A : World} {b i : Nat} {xs : List Value} (h : Box A b xs) (v : Value) : KeepsFrom D A (A.setCell ⟨b, i, none⟩ v) := ⟨by simp, fun k o _ ho hc => (Below.heap_setCell A ⟨b, i, none⟩ v k (fun e => by
  obtain ⟨t, ht⟩ := h
  have : k = b := by simpa using e
  subst this
  rw [ht] at ho
  cases ho
  cases hc)).trans ho⟩
end
end Go.Proofs.YtmbifmmkccghfaaGreat
namespace Go.Proofs.YtmbifmmkccghfaaGreat
open Go.RowKit
abbrev Pk.v (p : Pk) (V : Value) : Value := .agg #[.int .i64 p.src, .int .i64 p.dst, V]
abbrev pairV (a b : Int) : Value := .agg #[.int .i64 a, .int .i64 b]
theorem nBetween_any (a b : Int) (w : World) : Calls Tryz.prog 55 #[.int .i64 a, .int .i64 b] w fun e w' => e = .returned (pairV (min a b) (max a b)) ∧ Below w.heap.size w w' := by
  go_enter Tryz.func55, Tryz.ntmps55
  go_wp2
  refine bodyPost_ret (v := pairV (min a b) (max a b)) (by simp [results, Tryz.results55, go_sem]) rfl ?_
  exact ⟨rfl, (Below.refl _ _).alloc (Nat.le_refl _) _⟩
theorem nValid_any (a b : Int) (w : World) : Calls Tryz.prog 56 #[pairV a b] w fun e w' => e = .returned (.bool (linkB a b)) ∧ Below w.heap.size w w' := by
  go_enter Tryz.func56, Tryz.ntmps56
  go_wp2
  all_goals
    go_ret
    refine ⟨?_, (Below.refl _ _).alloc (Nat.le_refl _) _⟩
    simp_all [linkB] <;> omega
theorem nIsNaN_any (n : Int) (w : World) : Calls Tryz.prog 100 #[.int .i64 n] w fun e w' => e = .returned (.bool false) ∧ w = w' := by
  go_enter Tryz.func100, Tryz.ntmps100
  go_wp2
  go_ret
  exact ⟨rfl, rfl⟩
theorem nCmp_any (a b : Int) (w : World) : Calls Tryz.prog 85 #[.int .i64 a, .int .i64 b] w fun e w' => e = .returned (.int .i64 (cmpI a b)) ∧ w = w' := by
  go_enter Tryz.func85, Tryz.ntmps85
  go_wp2_with (go_at_call 100; refine (nIsNaN_any _ _).mono ?_; rintro e w' ⟨rfl, rfl⟩)
  all_goals
    go_ret
    refine ⟨?_, rfl⟩
    unfold cmpI
    first
      | (rw [if_pos (by assumption)]; rfl)
      | (rw [if_neg (by omega), if_pos (by assumption)]; rfl)
      | (rw [if_neg (by omega), if_neg (by omega)]; rfl)
theorem nPacket_any (p : Pk) (V : Value) (w : World) (hV : BytesAt w w.heap.size V p.data) : Calls Tryz.prog 63 #[p.v V] w fun e w' => e = .returned (.bool p.okB) ∧ Below w.heap.size w w' := by
  obtain ⟨A, c, rfl, hm⟩ := hV.form
  unfold maxLen at hm
  obtain ⟨n, hn⟩ : ∃ n, p.data.length = n := ⟨_, rfl⟩
  have hp : p.okB = (linkB (min p.src p.dst) (max p.src p.dst) && decide ((n : Int) ≤ 1048576)) := by
    rw [Pk.okB, hn, show decide (n ≤ 1048576) = decide ((n : Int) ≤ 1048576) from decide_eq_decide.2 (by omega)]
  rw [hn] at hm hV ⊢
  rw [hp]
  clear hp hn hV
  obtain ⟨q, hq⟩ : ∃ q, linkB (min p.src p.dst) (max p.src p.dst) = q := ⟨_, rfl⟩
  rw [hq]
  have hq := Lib.hid hq
  go_enter Tryz.func63, Tryz.ntmps63
  go_wp2_with fail
  refine (nBetween_any _ _ _).mono ?_
  rintro e w1 ⟨rfl, hb⟩
  have X := (Box.new w [.int .i64 p.src, .int .i64 p.dst, .slice A n c] 93).later hb
  have hB := ((Below.refl w.heap.size w).alloc (Nat.le_refl _) (.cells #[.int .i64 p.src, .int .i64 p.dst, .slice A n c] 93)).trans (hb.mono (by simp))
  clear hb
  go_wp2_with fail
  refine (((nValid_any _ _ _).mono fun _ _ ⟨he, hb⟩ => ⟨by rw [he, hq.out], hb⟩) : Calls Tryz.prog 56 #[pairV (min p.src p.dst) (max p.src p.dst)] _ fun e w' => e = .returned (.bool q) ∧ Below _ _ w').mono ?_
  rintro e w2 ⟨rfl, hb⟩
  have X := X.later hb
  have hB := hB.trans (hb.mono hB.size)
  clear hb
  have x2 : w2.cell? ⟨w.heap.size, 2, none⟩ = some (.slice A n c) := X.cell 2
  have xz := X.lt
  rcases q with _ | _
  all_goals
    go_wp2
    go_ret
    exact ⟨rfl, hB⟩
theorem nPacket1_any (p : Pk) (V : Value) (w : World) (hV : BytesAt w w.heap.size V p.data) : Calls Tryz.prog 70 #[p.v V] w fun e w' => e = .returned (.bool (!p.okB)) ∧ Below w.heap.size w w' := by
  obtain ⟨q, hq⟩ : ∃ q, p.okB = q := ⟨_, rfl⟩
  rw [hq]
  have hq := Lib.hid hq
  have hb0 := (Below.refl w.heap.size w).alloc (Nat.le_refl _) (.cells #[.int .i64 p.src, .int .i64 p.dst, V] 93)
  have hV2 := Lib.hid (hV.later hb0)
  clear hV
  go_enter Tryz.func70, Tryz.ntmps70
  go_wp2_with fail
  refine (((nPacket_any p V _ hV2.out).mono fun _ _ ⟨he, hb⟩ => ⟨by rw [he, hq.out], hb⟩) : Calls Tryz.prog 63 #[p.v V] _ fun e w' => e = .returned (.bool q) ∧ Below _ _ w').mono ?_
  rintro e w2 ⟨rfl, hb⟩
  go_wp2
  go_ret
  exact ⟨rfl, hb0.trans (hb.mono hb0.size)⟩
end Go.Proofs.YtmbifmmkccghfaaGreat
