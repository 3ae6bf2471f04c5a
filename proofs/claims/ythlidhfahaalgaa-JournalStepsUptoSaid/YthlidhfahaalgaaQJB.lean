/- Checksums and numbers: the walks of sum, get, checksum, number. No condition but the length of numbers. -/
import Derived.Test.YthlidhfahaalgaaQJA
import Derived.Laws.Bits64
import Derived.Lib.EndianBits
import Derived.Lib.MinMax
import Derived.Test.YthlidhfahaalgaaQK
set_option linter.unusedVariables false
set_option linter.unusedSimpArgs false
set_option maxRecDepth 100000
set_option maxHeartbeats 4000000
namespace Go.Proofs.Ythlidhfahaalgaa
open Go.RowKit
theorem ofInt_toNat (n a : Nat) (h : a < 2 ^ n) : (BitVec.ofInt n (a : Int)).toNat = a := by
  rw [BitVec.ofInt_natCast, BitVec.toNat_ofNat]; exact Nat.mod_eq_of_lt h
theorem wrap_u32_nat {a : Nat} (h : a < 4294967296) : IntKind.u32.wrap (a : Int) = (a : Int) := by
  rw [IntKind.wrap_u32]; omega
theorem wrap_u64_nat {a : Nat} (h : a < 18446744073709551616) : IntKind.u64.wrap (a : Int) = (a : Int) := by
  rw [IntKind.wrap_u64]; omega
theorem xor_u32 {a b : Nat} (ha : a < 4294967296) (hb : b < 4294967296) : bits .xor .u32 (a : Int) (b : Int) = ((a ^^^ b : Nat) : Int) := by
  show IntKind.u32.wrap ((BitVec.ofInt 32 (a : Int) ^^^ BitVec.ofInt 32 (b : Int)).toNat : Int) = _
  rw [BitVec.toNat_xor, ofInt_toNat 32 a ha, ofInt_toNat 32 b hb, wrap_u32_nat (xor_lt32 ha hb)]
theorem and1_u32 {a : Nat} (ha : a < 4294967296) : bits .and .u32 (a : Int) 1 = ((a % 2 : Nat) : Int) := by
  show IntKind.u32.wrap ((BitVec.ofInt 32 (a : Int) &&& BitVec.ofInt 32 1).toNat : Int) = _
  have h1 : (BitVec.ofInt 32 1).toNat = 1 := rfl
  rw [BitVec.toNat_and, ofInt_toNat 32 a ha, h1, Nat.and_one_is_mod, wrap_u32_nat (by omega)]
theorem or_u64 {a b : Nat} (ha : a < 72057594037927936) (hb : b < 256) : bits .or .u64 ((256 * a : Nat) : Int) (b : Int) = ((256 * a + b : Nat) : Int) := by
  show IntKind.u64.wrap ((BitVec.ofInt 64 ((256 * a : Nat) : Int) ||| BitVec.ofInt 64 (b : Int)).toNat : Int) = _
  rw [BitVec.toNat_or, ofInt_toNat 64 (256 * a) (by omega), ofInt_toNat 64 b (by omega), show 256 * a ||| b = 256 * a + b from (Nat.two_pow_add_eq_or_of_lt (i := 8) hb a).symm, wrap_u64_nat (by omega)]
theorem stepC_mul (n : Nat) : stepC n = (n / 2) ^^^ (3988292384 * (n % 2)) := by
  unfold stepC
  rcases (show n % 2 = 0 ∨ n % 2 = 1 by omega) with h | h
  · rw [if_neg (by omega), h, Nat.mul_zero, Nat.xor_zero]
  · rw [if_pos h, h, Nat.mul_one]
theorem roll_succ (k n : Nat) : rollC (k + 1) n = rollC k (stepC n) := rfl
theorem roll_start (m : Nat) (y : UInt8) : Hid (rollC (8 - 0) (m ^^^ y.toNat) = byteC m y) := by
  rw [Hid, Nat.sub_zero, byteC]
theorem roll_end {z m : Nat} {y : UInt8} (h : Hid (rollC (8 - 8) z = byteC m y)) : z = byteC m y := h.out
theorem jSum_any (l : Bs) (A : Option Addr) (c : Nat) (S : Nat → Prop) (w : World) (h : Hid (BsAt w S (.slice A l.length c) l)) :
    Calls Try.prog 65 #[.slice A l.length c] w fun e w' => e = .returned (.int .u32 (sumT l : Nat)) ∧ w' = w := by
  obtain ⟨T, hT⟩ : ∃ T : Nat, Hid (sumT l = T) := ⟨_, rfl⟩
  rw [hT.out]
  have hlen : l.length ≤ maxLen := by obtain ⟨_, _, _, hm⟩ := h.out.form; exact hm
  obtain ⟨n, hn⟩ : ∃ n, l.length = n := ⟨_, rfl⟩
  rw [hn] at h hlen ⊢
  have hn62 : (n : Int) ≤ 9223372036854775807 := by simp only [maxLen] at hlen; omega
  go_enter Try.func65, Try.ntmps65
  go_wp2_with fail
  go_loopw [3, 8] (fun x i wr => ∃ k m : Nat, k ≤ n ∧ i = .int .i64 k ∧ x = .int .u32 m ∧ Hid (m = foldC 4294967295 (l.take k)) ∧ wr = w) (fun _ i _ => n - (intOf i).toNat)
  case atStart => exact ⟨0, 4294967295, by omega, rfl, rfl, rfl, rfl⟩
  case round =>
    obtain ⟨k, m, hk, rfl, rfl, hm, rfl⟩ := hrel
    rcases Nat.lt_or_ge k n with hlt | hge
    rotate_left
    · obtain rfl : k = n := by omega
      have hmT : Hid (m ^^^ 4294967295 = T) := by rw [Hid, hm.out, ← hT.out, sumT, ← hn, List.take_length]
      have hx : bits .xor .u32 IntKind.u32.max (m : Int) = (T : Int) := by
        rw [show IntKind.u32.max = ((4294967295 : Nat) : Int) from rfl, xor_u32 (by decide) (by rw [hm.out]; exact foldC_lt _ (by decide)), Nat.xor_comm, hmT.out]
      have hsg : IntKind.u32.signed = false := rfl
      go_wp2
      go_ret
      exact ⟨rfl, rfl⟩
    have hk7 : (k : Int) < (n : Int) := by omega
    obtain ⟨b, off, rfl, hSb, hbz, hc⟩ := h.out.cell (show k < l.length by omega)
    have hm32 : m < 4294967296 := by rw [hm.out]; exact foldC_lt _ (by decide)
    obtain ⟨y, hy⟩ : ∃ y : UInt8, l.getD k 0 = y := ⟨_, rfl⟩
    rw [hy] at hc
    have hy2 := u8_lt y
    have hx : bits .xor .u32 (m : Int) (y.toNat : Int) = ((m ^^^ y.toNat : Nat) : Int) := xor_u32 hm32 (by omega)
    have hw : IntKind.u32.wrap (y.toNat : Int) = (y.toNat : Int) := wrap_u32_nat (by omega)
    have hq : m ^^^ y.toNat < 4294967296 := xor_lt32 hm32 (by omega)
    have HM := Lib.hid hm32
    clear hm32
    go_wp2_with fail
    clear hx hw
    go_loopw [3, 16] (fun x i w2 => ∃ j z : Nat, j ≤ 8 ∧ i = .int .i64 j ∧ x = .int .u32 z ∧ z < 4294967296 ∧ Hid (rollC (8 - j) z = byteC m y) ∧ w2 = wr) (fun _ i _ => 8 - (intOf i).toNat)
    case atStart => exact ⟨0, m ^^^ y.toNat, by omega, rfl, rfl, hq, roll_start m y, rfl⟩
    case round =>
      clear hc hq
      obtain ⟨j, z, hj, rfl, rfl, hz, hr, rfl⟩ := hrel
      rcases Nat.lt_or_ge j 8 with hl8 | hg8
      rotate_left
      · obtain rfl : j = 8 := by omega
        have hz' := roll_end hr
        have HZ := Lib.hid hz'
        clear hz' hr
        go_wp2
        refine ⟨⟨k + 1, z, by omega, by go_num, rfl, ?_, trivial⟩, by simp [intOf] <;> omega⟩
        have hk' : k < l.length := by omega
        have hyk : l[k] = y := by rw [← hy, List.getD_eq_getElem?_getD, List.getElem?_eq_getElem hk']; rfl
        rw [Hid, foldC_take_succ hk', ← hm.out, hyk]
        exact HZ.out
      have e1 : bits .and .u32 (z : Int) 1 = ((z % 2 : Nat) : Int) := and1_u32 hz
      have hj8 : (j : Int) < 8 := by omega
      have e2 : bits .xor .u32 ((z : Int) / 2) (3988292384 * ((z : Int) % 2)) = ((stepC z : Nat) : Int) := by
        rw [stepC_mul, show (z : Int) / 2 = ((z / 2 : Nat) : Int) by omega, show (3988292384 : Int) * ((z : Int) % 2) = ((3988292384 * (z % 2) : Nat) : Int) by omega]
        exact xor_u32 (by omega) (by omega)
      have e3 : Hid (stepC z < 4294967296) := stepC_lt hz
      have e4 : Hid (rollC (8 - (j + 1)) (stepC z) = byteC m y) := by
        rw [Hid, ← hr.out, show 8 - j = (8 - (j + 1)) + 1 by omega, roll_succ]
      go_wp2
      exact ⟨⟨j + 1, stepC z, by omega, by go_num, rfl, e3, e4, trivial⟩, by simp [intOf] <;> omega⟩
theorem numT_take4 {l : Bs} (hl : l.length ≤ 4) (k : Nat) : numT (l.take k) < 4294967296 := by
  have h := numT_lt (l.take k)
  have h2 : (256 : Nat) ^ (l.take k).length ≤ 256 ^ 4 := Nat.pow_le_pow_right (by decide) (by rw [List.length_take]; omega)
  exact Nat.lt_of_lt_of_le h h2
theorem jGet_any (l : Bs) (A : Option Addr) (c : Nat) (S : Nat → Prop) (w : World) (h : Hid (BsAt w S (.slice A l.length c) l)) (hl : l.length ≤ 4) :
    Calls Try.prog 41 #[.slice A l.length c] w fun e w' => e = .returned (.int .u64 (numT l : Nat)) ∧ w' = w := by
  obtain ⟨T, hT⟩ : ∃ T : Nat, Hid (numT l = T) := ⟨_, rfl⟩
  rw [hT.out]
  obtain ⟨n, hn⟩ : ∃ n, l.length = n := ⟨_, rfl⟩
  have H4 : ∀ k, numT (l.take k) < 4294967296 := numT_take4 hl
  rw [hn] at h hl ⊢
  go_enter Try.func41, Try.ntmps41
  go_wp2_with fail
  go_loopw [2, 7] (fun x i wr => ∃ k m : Nat, k ≤ n ∧ i = .int .i64 k ∧ x = .int .u64 m ∧ Hid (m = numT (l.take k)) ∧ wr = w) (fun _ i _ => n - (intOf i).toNat)
  case atStart => exact ⟨0, 0, by omega, rfl, rfl, rfl, rfl⟩
  case round =>
    obtain ⟨k, m, hk, rfl, rfl, hm, rfl⟩ := hrel
    rcases Nat.lt_or_ge k n with hlt | hge
    rotate_left
    · obtain rfl : k = n := by omega
      have hmT : m = T := by rw [hm.out, ← hT.out, ← hn, List.take_length]
      subst hmT
      clear H4
      go_wp2
      go_ret
      exact ⟨rfl, rfl⟩
    have hk7 : (k : Int) < (n : Int) := by omega
    obtain ⟨b, off, rfl, hSb, hbz, hc⟩ := h.out.cell (show k < l.length by omega)
    have hm32 : m < 4294967296 := by rw [hm.out]; exact H4 k
    obtain ⟨y, hy⟩ : ∃ y : UInt8, l.getD k 0 = y := ⟨_, rfl⟩
    rw [hy] at hc
    have hy2 := u8_lt y
    have hw : IntKind.u64.wrap (y.toNat : Int) = (y.toNat : Int) := wrap_u64_nat (by omega)
    have hw2 : IntKind.u64.wrap ((m : Int) * 256) = 256 * (m : Int) := by rw [IntKind.wrap_u64]; omega
    have hx : bits .or .u64 (256 * (m : Int)) (y.toNat : Int) = ((256 * m + y.toNat : Nat) : Int) := by
      have := or_u64 (a := m) (b := y.toNat) (by omega) hy2
      rwa [show ((256 * m : Nat) : Int) = 256 * (m : Int) by omega] at this
    have hk' : k < l.length := by omega
    have hyk : l[k] = y := by rw [← hy, List.getD_eq_getElem?_getD, List.getElem?_eq_getElem hk']; rfl
    have hs : Hid (256 * m + y.toNat = numT (l.take (k + 1))) := by rw [Hid, numT_take_succ hk', hm.out, hyk]
    clear H4 hk' hyk hm32 hy
    go_wp2
    exact ⟨⟨k + 1, 256 * m + y.toNat, by omega, by go_num, rfl, hs, trivial⟩, by simp [intOf] <;> omega⟩
end Go.Proofs.Ythlidhfahaalgaa
namespace Go.Proofs.Ythlidhfahaalgaa
open Go.RowKit
structure Jn where
  records : List Bs
  many : Int
  synced : Int
def secT (n : Nat) : Nat := max 1 ((n + 111) / 112)
def usedT (l : List Bs) : Nat := l.foldl (fun n b => n + secT b.length) 0
theorem usedT_snoc (l : List Bs) (b : Bs) : usedT (l ++ [b]) = usedT l + secT b.length := by rw [usedT, List.foldl_append]; rfl
theorem usedT_take_succ {l : List Bs} {k : Nat} (hk : k < l.length) : usedT (l.take (k + 1)) = usedT (l.take k) + secT (l[k]).length := by
  rw [List.take_succ_eq_append_getElem hk, usedT_snoc]
theorem sumB_append (a b : List Bs) : sumB (a ++ b) = sumB a + sumB b := by
  induction a with
  | nil => simp [sumB]
  | cons x a ih => simp only [List.cons_append, sumB, List.foldr_cons] at ih ⊢; omega
theorem usedT_le (l : List Bs) : usedT l ≤ sumB l := by
  suffices H : ∀ n (l : List Bs), l.foldl (fun n b => n + secT b.length) n ≤ n + sumB l by
    have := H 0 l; rw [usedT]; omega
  intro n l
  induction l generalizing n with
  | nil => simp [sumB]
  | cons x l ih =>
    have := ih (n + secT x.length)
    simp only [List.foldl_cons, sumB, List.foldr_cons] at this ⊢
    have h2 : secT x.length ≤ x.length + 1 := by unfold secT; omega
    omega
theorem length_le_sumB (l : List Bs) : l.length ≤ sumB l := by
  induction l with
  | nil => simp [sumB]
  | cons x l ih => simp only [sumB, List.foldr_cons, List.length_cons] at ih ⊢; omega
theorem sumB_mem {l : List Bs} {k : Nat} (hk : k < l.length) : (l[k]).length < sumB l := by
  have h := sumB_append (l.take k) (l.drop k)
  rw [List.take_append_drop, List.drop_eq_getElem_cons hk] at h
  simp only [sumB, List.foldr_cons] at h ⊢
  omega
theorem sumB_take_le (l : List Bs) (k : Nat) : sumB (l.take k) ≤ sumB l := by
  have h := sumB_append (l.take k) (l.drop k)
  rw [List.take_append_drop] at h
  omega
def Jn.okB (l : Jn) : Bool := decide (1 ≤ l.many) && (decide (l.many ≤ 4096) && (decide (0 ≤ l.synced) && (decide (l.synced ≤ (l.records.length : Int)) && decide ((usedT l.records : Int) ≤ l.many))))
def Jn.checkT (l : Jn) : Int := if l.okB = true then 0 else 1
def Jn.roomT (l : Jn) : Int := if l.okB = true then 112 * (l.many - (usedT l.records : Int)) else 0
theorem jSectors_any (A : Option Addr) (n c : Nat) (w : World) (hn : n ≤ 4194304) : Calls Try.prog 35 #[.slice A n c] w fun e w' => e = .returned (.int .i64 (secT n : Nat)) ∧ w' = w := by
  have hm : (secT n : Int) = max 1 (((n : Int) + 112 - 1) / 112) := by unfold secT; omega
  rw [hm]
  go_enter Try.func35, Try.ntmps35
  go_wp2_with fail
  go_ret
  exact ⟨rfl, rfl⟩
theorem jUsed_any (l : List Bs) (A : Option Addr) (c : Nat) (S : Nat → Prop) (w : World) (h : Hid (RwAt w S (.slice A l.length c) l)) (hs : sumB l ≤ 4194304) : Calls Try.prog 36 #[.slice A l.length c] w fun e w' => e = .returned (.int .i64 (usedT l : Nat)) ∧ w' = w := by
  obtain ⟨T, hT⟩ : ∃ T : Nat, Hid (usedT l = T) := ⟨_, rfl⟩
  rw [hT.out]
  obtain ⟨n, hn⟩ : ∃ n, l.length = n := ⟨_, rfl⟩
  have hn2 : n ≤ 4194304 := by have := length_le_sumB l; omega
  have HS := Lib.hid hs
  clear hs
  rw [hn] at h ⊢
  go_enter Try.func36, Try.ntmps36
  go_wp2_with fail
  go_loopw [2, 7] (fun x i wr => ∃ k m : Nat, k ≤ n ∧ i = .int .i64 k ∧ x = .int .i64 m ∧ Hid (m = usedT (l.take k)) ∧ wr = w) (fun _ i _ => n - (intOf i).toNat)
  case atStart => exact ⟨0, 0, by omega, rfl, rfl, rfl, rfl⟩
  case round =>
    obtain ⟨k, m, hk, rfl, rfl, hm, rfl⟩ := hrel
    rcases Nat.lt_or_ge k n with hlt | hge
    rotate_left
    · obtain rfl : k = n := by omega
      have hmT : m = T := by rw [hm.out, ← hT.out, ← hn, List.take_length]
      subst hmT
      go_wp2
      go_ret
      exact ⟨rfl, rfl⟩
    have hk7 : (k : Int) < (n : Int) := by omega
    have hk' : k < l.length := by omega
    obtain ⟨b, off, V, rfl, hSb, hbz, hc, hbs⟩ := h.out.row hk'
    obtain ⟨Ab, cb, rfl, _⟩ := hbs.form
    obtain ⟨z, hz⟩ : ∃ z, (l[k]).length = z := ⟨_, rfl⟩
    have hz2 : z ≤ 4194304 := by have := sumB_mem hk'; have := HS.out; omega
    have hm2 : m ≤ 4194304 := by rw [hm.out]; have := usedT_le (l.take k); have := sumB_take_le l k; have := HS.out; omega
    have hsz : secT z ≤ 4194304 := by unfold secT; omega
    have hnx : Hid (m + secT z = usedT (l.take (k + 1))) := by rw [Hid, usedT_take_succ hk', hm.out, hz]
    rw [hz] at hc
    clear hbs hz hm
    go_wp2_with fail
    refine (jSectors_any Ab z cb _ hz2).mono ?_
    rintro e w2 ⟨rfl, rfl⟩
    go_wp2
    exact ⟨⟨k + 1, m + secT z, by omega, by go_num, by first | rfl | simp, hnx, trivial⟩, by simp [intOf] <;> omega⟩
end Go.Proofs.Ythlidhfahaalgaa
namespace Go.Proofs.Ythlidhfahaalgaa
open Go.RowKit
theorem perf_take {s : List Bs} {l : List Wr} {k : Nat} (hk : k < l.length) : perf s (l.take (k + 1)) = (perf s (l.take k)).set (l[k]).at'.toNat (l[k]).data := by
  rw [List.take_succ_eq_append_getElem hk, perf_snoc]
theorem perf_len {s : List Bs} {l : List Wr} (hs : ∀ x ∈ s, x.length = 128) (hl : ∀ x ∈ l, x.data.length = 128) : ∀ x ∈ perf s l, x.length = 128 := by
  induction l generalizing s with
  | nil => exact hs
  | cons y l ih =>
    rw [perf_cons]
    refine ih (fun x hx => ?_) (fun x hx => hl x (List.mem_cons_of_mem _ hx))
    rcases List.mem_or_eq_of_mem_set hx with h | h
    · exact hs x h
    · rw [h]; exact hl y List.mem_cons_self
theorem dPerform_any (s : List Bs) (l : List Wr) (Vs Vl : Value) (S : Nat → Prop) (w : World) (hs : RwAt w S Vs s) (hl : WsAt w S Vl l) (hn : s.length ≤ 1048576) (hin : Hid (∀ x ∈ l, 0 ≤ x.at' ∧ x.at' < (s.length : Int))) :
    Calls Try.prog 54 #[Vs, Vl] w (RetOwn (perf s l) S w) := by
  obtain ⟨A, c, rfl, hm⟩ := hl.form
  unfold maxLen at hm
  obtain ⟨m, hmm⟩ : ∃ m, l.length = m := ⟨_, rfl⟩
  obtain ⟨n, hnn⟩ : ∃ n, s.length = n := ⟨_, rfl⟩
  rw [hmm] at hm hl ⊢
  have HM := Lib.hid hmm
  have HN := Lib.hid hnn
  have HL := Lib.hid hl
  have C := Lib.hid (dCloneS_any s Vs S w hs hn)
  clear hs hl hmm hnn hn
  go_enter Try.func54, Try.ntmps54
  go_wp2_with fail
  refine C.out.mono ?_
  rintro e w1 ⟨V, rfl, ho, hb⟩
  clear C
  go_wp2_with fail
  go_loopw [12] (fun i wr => ∃ k : Nat, k ≤ m ∧ i = .int .i64 k ∧ OwnRw wr w.heap.size (Old S w) V (perf s (l.take k)) ∧ Below w.heap.size w wr) (fun i _ => m - (intOf i).toNat)
  case atStart => exact ⟨0, by omega, rfl, ho, hb⟩
  case round =>
    clear ho hb
    obtain ⟨k, hk, rfl, ho, hb⟩ := hrel
    by_cases hlt : k < m
    · have hkl : k < l.length := by rw [HM.out]; exact hlt
      obtain ⟨b, off, U, rfl, hS, hbw, q0, q1, hU⟩ := HL.out.wr hkl
      obtain ⟨hi1, hi2⟩ := hin.out _ (List.getElem_mem hkl)
      rw [HN.out] at hi2
      have q0 := (hb.cell hbw).trans q0
      have q1 := (hb.cell hbw).trans q1
      have hU := hU.old.keep (Keeps.of hb)
      have hpt := perf_take (s := s) hkl
      obtain ⟨⟨xa, xd⟩, hx⟩ : ∃ x, l[k] = x := ⟨_, rfl⟩
      rw [hx] at q0 hU hi1 hi2 hpt
      dsimp only at q0 hU hi1 hi2 hpt
      obtain ⟨Au, cu, rfl, _⟩ := hU.form
      obtain ⟨ul, hul⟩ : ∃ ul, xd.length = ul := ⟨_, rfl⟩
      rw [hul] at q1 hU
      clear hul
      obtain ⟨j, rfl⟩ : ∃ j : Nat, xa = j := ⟨xa.toNat, by omega⟩
      have HPT := Lib.hid hpt
      have HU := Lib.hid hU
      have hj : j < n := by omega
      clear hx hpt hU hi1
      have hpl : Hid ((perf s (l.take k)).length = n) := by rw [Hid, perf_length, HN.out]
      have ho2 := ho.keep ((Below.refl wr.heap.size wr).alloc (Nat.le_refl _) (.cells #[.int .i64 j, .slice Au ul cu] 76))
      obtain ⟨g, cc, rfl, hnc, hbg, hgw, hgc, hgf⟩ := ho2.row hpl.out (by omega)
      obtain ⟨u, hu, _⟩ := hgc j hj
      have hf := hgf j
      have HO := Lib.hid ho2
      have hjc : (j : Int) < (cc : Int) := by omega
      have hbA := hb.alloc hb.size (.cells #[.int .i64 j, .slice Au ul cu] 76)
      have HU2 := Lib.hid (HU.out.keep (Keeps.of ((Below.refl wr.heap.size wr).alloc (Nat.le_refl _) (.cells #[.int .i64 j, .slice Au ul cu] 76))))
      clear ho ho2 hgc hgf HU
      go_wp2
      refine ⟨⟨k + 1, by omega, by go_num, ?_, hbA.setCell (p := ⟨g, j, none⟩) hbg _⟩, by simp [intOf]; omega⟩
      rw [HPT.out, Int.toNat_natCast]
      exact HO.out.set (fun h => by have := h.2; omega) hj hpl.out HU2.out
    · obtain rfl : k = m := by omega
      have hfin : Hid (l.take k = l) := by rw [Hid, List.take_of_length_le (by rw [HM.out]; omega)]
      rw [hfin.out] at ho
      have HO := Lib.hid ho
      clear ho
      go_wp2
      go_ret
      exact ⟨_, rfl, HO.out, hb⟩
end Go.Proofs.Ythlidhfahaalgaa
namespace Go.Proofs.Ythlidhfahaalgaa
open Go.RowKit
attribute [local go_sem ↓ high] app_named cop_named
def RetDk (t : Dk × Int) (S : Nat → Prop) (w : World) (e : Ending) (w' : World) : Prop := ∃ (Vs Vp : Value) (m : Dk) (er : Int), e = .returned (.tuple #[m.v Vs Vp, .int .i64 er]) ∧ Hid (t = (m, er)) ∧ Hid (DkAt w' (Grow S w) Vs Vp m) ∧ Below w.heap.size w w'
theorem dRuns_at {d : Dk} {Vs Vp : Value} {S : Nat → Prop} {w : World} {l : Int} {s r : Bool} (hr : Hid (d.runs = r)) (hD : DkAt w S Vs Vp d) (hl : Hid (d.left = l)) (hs : Hid (d.stopped = s)) :
    Calls Try.prog 50 #[.agg #[Vs, Vp, .int .i64 l, .bool s]] w fun e w' => e = .returned (.bool r) ∧ Below w.heap.size w w' := by
  have := dRuns_any d Vs Vp S w hD
  rw [hr.out] at this
  rw [← hl.out, ← hs.out]
  exact this
theorem dHas_at {d : Dk} {Vs Vp : Value} {S : Nat → Prop} {w : World} {l i : Int} {s r : Bool} (hr : Hid (d.hasB i = r)) (hD : DkAt w S Vs Vp d) (hl : Hid (d.left = l)) (hs : Hid (d.stopped = s)) :
    Calls Try.prog 51 #[.agg #[Vs, Vp, .int .i64 l, .bool s], .int .i64 i] w fun e w' => e = .returned (.bool r) ∧ Below w.heap.size w w' := by
  have := dHas_any d Vs Vp i S w hD
  rw [hr.out] at this
  rw [← hl.out, ← hs.out]
  exact this
theorem run_appW (l : List Wr) (x : Wr) {w : World} {S U : Nat → Prop} {A : Option Addr} {n bb : Nat} {V : Value} (h : WsAt w S (.slice A n n) l) (hn : l.length = n) (hX : Box w bb [.int .i64 x.at', V]) (hV : BsAt w U V x.data) (hm : n ≤ 1048576) :
    ∃ v' w', (appF #[23, 23] 23 #[.slice A n n, .slice (some ⟨bb, 0, none⟩) 1 1]).run Try.prog w = .ok v' w' ∧ WsAt w' (fun b => (Grow S w) b ∨ U b) v' (l ++ [x]) ∧ Below w.heap.size w w' := by
  obtain ⟨i, E⟩ := elem_wr
  obtain ⟨hf, g, hs, hb⟩ := h
  subst hn
  have hx : Sl w w.heap.size 2 1 (wrCells [x] fun _ => V) (.slice (some ⟨bb, 0, none⟩) 1 1) := by
    refine ⟨_, _, rfl, by simp [maxLen], fun i hi => ⟨bb, 0, rfl, hX.lt, fun j hj => ?_⟩⟩
    obtain rfl : i = 0 := by omega
    rcases (show j = 0 ∨ j = 1 by omega) with rfl | rfl
    · exact hX.cell 0
    · exact hX.cell 1
  have hone : ∀ k j, k < 1 → j < 2 → (wrCells [x] (fun _ => V) k j).oneCell' = true := by
    intro k j hk _
    obtain rfl : k = 0 := by omega
    unfold wrCells
    split
    · rfl
    · exact bsAt_one hV
  obtain ⟨v', w', hr, hs', hf', hbel⟩ := run_app_p E 23 hs hf hx (.inr ⟨_, _, _, rfl, Nat.le_refl _, by simp [maxLen]⟩) hone (.inl (by omega)) (by simp only [maxLen]; omega) (by omega)
  refine ⟨v', w', hr, ⟨hf', fun i => if i < l.length then g i else V, ?_, fun j y hy => ?_⟩, hbel⟩
  · rw [List.length_append]
    refine (hs'.weak (fun b hb _ => .inl hb)).congr fun i j hi hj => ?_
    unfold cat wrCells
    by_cases h : i < l.length
    · simp only [if_pos h, List.getD_eq_getElem?_getD, List.getElem?_append_left h]
    · obtain rfl : i = l.length := by omega
      simp
  · by_cases h : j < l.length
    · rw [List.getElem?_append_left h] at hy
      simp only [if_pos h]
      exact ((hb j y hy).keep (Keeps.of hbel)).weak fun b hb _ => .inl (.inl hb)
    · rw [List.getElem?_append_right (by omega)] at hy
      have hj : j - l.length = 0 := by
        rcases Nat.eq_zero_or_pos (j - l.length) with h0 | h0
        · exact h0
        · rw [List.getElem?_eq_none (by simp; omega)] at hy; cases hy
      rw [hj] at hy
      obtain rfl : x = y := by simpa using hy
      simp only [if_neg h]
      exact (hV.keep (Keeps.of hbel)).weak fun b hb _ => .inr hb
theorem dWrite_1 (d : Dk) (As : Option Addr) (ns cs : Nat) (Ap : Option Addr) (np cp : Nat) (dl : Int) (ds : Bool) (S : Nat → Prop) (w : World) (hD : Hid (DkAt w S (.slice As ns cs) (.slice Ap np cp) d)) (hdl : Hid (d.left = dl)) (hds : Hid (d.stopped = ds)) (i : Int) (Ab : Option Addr) (nb cb : Nat) (b : Bs) (hr : Hid (d.runs = false)) (hs : Hid (writeT d i b = (Dk.zero, 40))) : Calls Try.prog 26 #[.agg #[.slice As ns cs, .slice Ap np cp, .int .i64 dl, .bool ds], .int .i64 i, .slice Ab nb cb] w (RetDk (writeT d i b) S w) := by
  have HB0 : Below w.heap.size w ((w.alloc (.cells #[.slice As ns cs, .slice Ap np cp, .int .i64 dl, .bool ds] 25)).alloc (.cells #[.slice none 0 0, .slice none 0 0, .int .i64 0, .bool false] 25)) := (((Below.refl w.heap.size w).alloc (by simp <;> omega) (.cells #[.slice As ns cs, .slice Ap np cp, .int .i64 dl, .bool ds] 25)).alloc (by simp <;> omega) (.cells #[.slice none 0 0, .slice none 0 0, .int .i64 0, .bool false] 25))
  have HD0 := Lib.hid (hD.out.keep (Keeps.of HB0))
  go_enter Try.func26, Try.ntmps26
  go_wp2_with fail
  refine (dRuns_at hr HD0.out hdl hds).mono ?_
  rintro e w1 ⟨rfl, hb⟩
  have X0 := (((Box.newAt (n := w.heap.size) [.slice As ns cs, .slice Ap np cp, .int .i64 dl, .bool ds] 25 (by simp)).alloc _)).later hb
  have R := ((Box.newAt (n := w.heap.size + 1) [.slice none 0 0, .slice none 0 0, .int .i64 0, .bool false] 25 (by simp))).later hb
  have hB : Below w.heap.size w w1 := ((((Below.refl w.heap.size w).alloc (by simp <;> omega) _).alloc (by simp <;> omega) _)).trans (hb.mono (by simp <;> omega))
  clear hb
  obtain ⟨Rc0, Rf0, Rc1, Rf1, Rc2, Rf2, Rc3, Rf3⟩ := R.f4
  have Rz : w.heap.size + 1 < w1.heap.size := R.lt
  go_wp2
  have hY := ((((R.set 0 (.slice none 0 0)).set 1 (.slice none 0 0)).set 2 (.int .i64 0)).set 3 (.bool false))
  have hB := ((((hB.setCell (p := ⟨w.heap.size + 1, 0, none⟩) (by simp <;> omega) (.slice none 0 0)).setCell (p := ⟨w.heap.size + 1, 1, none⟩) (by simp <;> omega) (.slice none 0 0)).setCell (p := ⟨w.heap.size + 1, 2, none⟩) (by simp <;> omega) (.int .i64 0)).setCell (p := ⟨w.heap.size + 1, 3, none⟩) (by simp <;> omega) (.bool false))
  generalize ((((w1.setCell ⟨w.heap.size + 1, 0, none⟩ (.slice none 0 0)).setCell ⟨w.heap.size + 1, 1, none⟩ (.slice none 0 0)).setCell ⟨w.heap.size + 1, 2, none⟩ (.int .i64 0)).setCell ⟨w.heap.size + 1, 3, none⟩ (.bool false)) = W at hY hB ⊢
  obtain ⟨y0, y1, y2, y3⟩ := hY.c4
  refine bodyPost_ret (v := .tuple #[.agg #[.slice none 0 0, .slice none 0 0, .int .i64 0, .bool false], .int .i64 40]) (by simp [results, Try.results26, go_sem, y0, y1, y2, y3]) rfl ?_
  exact ⟨_, _, Dk.zero, 40, rfl, hs, dkAt_zero _ _, hB⟩
theorem dWrite_2 (d : Dk) (As : Option Addr) (ns cs : Nat) (Ap : Option Addr) (np cp : Nat) (dl : Int) (ds : Bool) (S : Nat → Prop) (w : World) (hD : Hid (DkAt w S (.slice As ns cs) (.slice Ap np cp) d)) (hdl : Hid (d.left = dl)) (hds : Hid (d.stopped = ds)) (i : Int) (Ab : Option Addr) (nb cb : Nat) (b : Bs) (hr : Hid (d.runs = true)) (hh : Hid (d.hasB i = false)) (hs : Hid (writeT d i b = (Dk.zero, 40))) : Calls Try.prog 26 #[.agg #[.slice As ns cs, .slice Ap np cp, .int .i64 dl, .bool ds], .int .i64 i, .slice Ab nb cb] w (RetDk (writeT d i b) S w) := by
  have HB0 : Below w.heap.size w ((w.alloc (.cells #[.slice As ns cs, .slice Ap np cp, .int .i64 dl, .bool ds] 25)).alloc (.cells #[.slice none 0 0, .slice none 0 0, .int .i64 0, .bool false] 25)) := (((Below.refl w.heap.size w).alloc (by simp <;> omega) (.cells #[.slice As ns cs, .slice Ap np cp, .int .i64 dl, .bool ds] 25)).alloc (by simp <;> omega) (.cells #[.slice none 0 0, .slice none 0 0, .int .i64 0, .bool false] 25))
  have HD0 := Lib.hid (hD.out.keep (Keeps.of HB0))
  go_enter Try.func26, Try.ntmps26
  go_wp2_with fail
  refine (dRuns_at hr HD0.out hdl hds).mono ?_
  rintro e w1 ⟨rfl, hb⟩
  have X0 := (((Box.newAt (n := w.heap.size) [.slice As ns cs, .slice Ap np cp, .int .i64 dl, .bool ds] 25 (by simp)).alloc _)).later hb
  have R := ((Box.newAt (n := w.heap.size + 1) [.slice none 0 0, .slice none 0 0, .int .i64 0, .bool false] 25 (by simp))).later hb
  have hB : Below w.heap.size w w1 := ((((Below.refl w.heap.size w).alloc (by simp <;> omega) _).alloc (by simp <;> omega) _)).trans (hb.mono (by simp <;> omega))
  clear hb
  obtain ⟨X0c0, X0f0, X0c1, X0f1, X0c2, X0f2, X0c3, X0f3⟩ := X0.f4
  have X0z : w.heap.size < w1.heap.size := X0.lt
  go_wp2_with fail
  refine (dHas_at hh (hD.out.keep (Keeps.of hB)) hdl hds).mono ?_
  rintro e w2 ⟨rfl, hb⟩
  clear X0c0 X0f0 X0c1 X0f1 X0c2 X0f2 X0c3 X0f3 X0z
  have X0 := X0.later hb
  have R := R.later hb
  have hB := hB.trans (hb.mono hB.size)
  clear hb
  obtain ⟨Rc0, Rf0, Rc1, Rf1, Rc2, Rf2, Rc3, Rf3⟩ := R.f4
  have Rz : w.heap.size + 1 < w2.heap.size := R.lt
  go_wp2
  have hY := ((((R.set 0 (.slice none 0 0)).set 1 (.slice none 0 0)).set 2 (.int .i64 0)).set 3 (.bool false))
  have hB := ((((hB.setCell (p := ⟨w.heap.size + 1, 0, none⟩) (by simp <;> omega) (.slice none 0 0)).setCell (p := ⟨w.heap.size + 1, 1, none⟩) (by simp <;> omega) (.slice none 0 0)).setCell (p := ⟨w.heap.size + 1, 2, none⟩) (by simp <;> omega) (.int .i64 0)).setCell (p := ⟨w.heap.size + 1, 3, none⟩) (by simp <;> omega) (.bool false))
  generalize ((((w2.setCell ⟨w.heap.size + 1, 0, none⟩ (.slice none 0 0)).setCell ⟨w.heap.size + 1, 1, none⟩ (.slice none 0 0)).setCell ⟨w.heap.size + 1, 2, none⟩ (.int .i64 0)).setCell ⟨w.heap.size + 1, 3, none⟩ (.bool false)) = W at hY hB ⊢
  obtain ⟨y0, y1, y2, y3⟩ := hY.c4
  refine bodyPost_ret (v := .tuple #[.agg #[.slice none 0 0, .slice none 0 0, .int .i64 0, .bool false], .int .i64 40]) (by simp [results, Try.results26, go_sem, y0, y1, y2, y3]) rfl ?_
  exact ⟨_, _, Dk.zero, 40, rfl, hs, dkAt_zero _ _, hB⟩
theorem dWrite_3 (d : Dk) (As : Option Addr) (ns cs : Nat) (Ap : Option Addr) (np cp : Nat) (dl : Int) (ds : Bool) (S : Nat → Prop) (w : World) (hD : Hid (DkAt w S (.slice As ns cs) (.slice Ap np cp) d)) (hdl : Hid (d.left = dl)) (hds : Hid (d.stopped = ds)) (i : Int) (Ab : Option Addr) (nb cb : Nat) (b : Bs) (hr : Hid (d.runs = true)) (hh : Hid (d.hasB i = true)) (hl : 128 < nb) (hnb : nb ≤ 9223372036854775807) (hs : Hid (writeT d i b = (Dk.zero, 1))) : Calls Try.prog 26 #[.agg #[.slice As ns cs, .slice Ap np cp, .int .i64 dl, .bool ds], .int .i64 i, .slice Ab nb cb] w (RetDk (writeT d i b) S w) := by
  have HB0 : Below w.heap.size w ((w.alloc (.cells #[.slice As ns cs, .slice Ap np cp, .int .i64 dl, .bool ds] 25)).alloc (.cells #[.slice none 0 0, .slice none 0 0, .int .i64 0, .bool false] 25)) := (((Below.refl w.heap.size w).alloc (by simp <;> omega) (.cells #[.slice As ns cs, .slice Ap np cp, .int .i64 dl, .bool ds] 25)).alloc (by simp <;> omega) (.cells #[.slice none 0 0, .slice none 0 0, .int .i64 0, .bool false] 25))
  have HD0 := Lib.hid (hD.out.keep (Keeps.of HB0))
  go_enter Try.func26, Try.ntmps26
  go_wp2_with fail
  refine (dRuns_at hr HD0.out hdl hds).mono ?_
  rintro e w1 ⟨rfl, hb⟩
  have X0 := (((Box.newAt (n := w.heap.size) [.slice As ns cs, .slice Ap np cp, .int .i64 dl, .bool ds] 25 (by simp)).alloc _)).later hb
  have R := ((Box.newAt (n := w.heap.size + 1) [.slice none 0 0, .slice none 0 0, .int .i64 0, .bool false] 25 (by simp))).later hb
  have hB : Below w.heap.size w w1 := ((((Below.refl w.heap.size w).alloc (by simp <;> omega) _).alloc (by simp <;> omega) _)).trans (hb.mono (by simp <;> omega))
  clear hb
  obtain ⟨X0c0, X0f0, X0c1, X0f1, X0c2, X0f2, X0c3, X0f3⟩ := X0.f4
  have X0z : w.heap.size < w1.heap.size := X0.lt
  go_wp2_with fail
  refine (dHas_at hh (hD.out.keep (Keeps.of hB)) hdl hds).mono ?_
  rintro e w2 ⟨rfl, hb⟩
  clear X0c0 X0f0 X0c1 X0f1 X0c2 X0f2 X0c3 X0f3 X0z
  have X0 := X0.later hb
  have R := R.later hb
  have hB := hB.trans (hb.mono hB.size)
  clear hb
  obtain ⟨Rc0, Rf0, Rc1, Rf1, Rc2, Rf2, Rc3, Rf3⟩ := R.f4
  have Rz : w.heap.size + 1 < w2.heap.size := R.lt
  go_wp2
  have hY := ((((R.set 0 (.slice none 0 0)).set 1 (.slice none 0 0)).set 2 (.int .i64 0)).set 3 (.bool false))
  have hB := ((((hB.setCell (p := ⟨w.heap.size + 1, 0, none⟩) (by simp <;> omega) (.slice none 0 0)).setCell (p := ⟨w.heap.size + 1, 1, none⟩) (by simp <;> omega) (.slice none 0 0)).setCell (p := ⟨w.heap.size + 1, 2, none⟩) (by simp <;> omega) (.int .i64 0)).setCell (p := ⟨w.heap.size + 1, 3, none⟩) (by simp <;> omega) (.bool false))
  generalize ((((w2.setCell ⟨w.heap.size + 1, 0, none⟩ (.slice none 0 0)).setCell ⟨w.heap.size + 1, 1, none⟩ (.slice none 0 0)).setCell ⟨w.heap.size + 1, 2, none⟩ (.int .i64 0)).setCell ⟨w.heap.size + 1, 3, none⟩ (.bool false)) = W at hY hB ⊢
  obtain ⟨y0, y1, y2, y3⟩ := hY.c4
  refine bodyPost_ret (v := .tuple #[.agg #[.slice none 0 0, .slice none 0 0, .int .i64 0, .bool false], .int .i64 1]) (by simp [results, Try.results26, go_sem, y0, y1, y2, y3]) rfl ?_
  exact ⟨_, _, Dk.zero, 1, rfl, hs, dkAt_zero _ _, hB⟩
theorem dWrite_4 (d : Dk) (As : Option Addr) (ns cs : Nat) (Ap : Option Addr) (np cp : Nat) (dl : Int) (ds : Bool) (S : Nat → Prop) (w : World) (hD : Hid (DkAt w S (.slice As ns cs) (.slice Ap np cp) d)) (hdl : Hid (d.left = dl)) (hds : Hid (d.stopped = ds)) (i : Int) (Ab : Option Addr) (nb cb : Nat) (b : Bs) (hr : Hid (d.runs = true)) (hh : Hid (d.hasB i = true)) (hl : nb ≤ 128) (hp : (np == 4096) = true) (hs : Hid (writeT d i b = (Dk.zero, 2))) : Calls Try.prog 26 #[.agg #[.slice As ns cs, .slice Ap np cp, .int .i64 dl, .bool ds], .int .i64 i, .slice Ab nb cb] w (RetDk (writeT d i b) S w) := by
  have HB0 : Below w.heap.size w ((w.alloc (.cells #[.slice As ns cs, .slice Ap np cp, .int .i64 dl, .bool ds] 25)).alloc (.cells #[.slice none 0 0, .slice none 0 0, .int .i64 0, .bool false] 25)) := (((Below.refl w.heap.size w).alloc (by simp <;> omega) (.cells #[.slice As ns cs, .slice Ap np cp, .int .i64 dl, .bool ds] 25)).alloc (by simp <;> omega) (.cells #[.slice none 0 0, .slice none 0 0, .int .i64 0, .bool false] 25))
  have HD0 := Lib.hid (hD.out.keep (Keeps.of HB0))
  go_enter Try.func26, Try.ntmps26
  go_wp2_with fail
  refine (dRuns_at hr HD0.out hdl hds).mono ?_
  rintro e w1 ⟨rfl, hb⟩
  have X0 := (((Box.newAt (n := w.heap.size) [.slice As ns cs, .slice Ap np cp, .int .i64 dl, .bool ds] 25 (by simp)).alloc _)).later hb
  have R := ((Box.newAt (n := w.heap.size + 1) [.slice none 0 0, .slice none 0 0, .int .i64 0, .bool false] 25 (by simp))).later hb
  have hB : Below w.heap.size w w1 := ((((Below.refl w.heap.size w).alloc (by simp <;> omega) _).alloc (by simp <;> omega) _)).trans (hb.mono (by simp <;> omega))
  clear hb
  obtain ⟨X0c0, X0f0, X0c1, X0f1, X0c2, X0f2, X0c3, X0f3⟩ := X0.f4
  have X0z : w.heap.size < w1.heap.size := X0.lt
  go_wp2_with fail
  refine (dHas_at hh (hD.out.keep (Keeps.of hB)) hdl hds).mono ?_
  rintro e w2 ⟨rfl, hb⟩
  clear X0c0 X0f0 X0c1 X0f1 X0c2 X0f2 X0c3 X0f3 X0z
  have X0 := X0.later hb
  have R := R.later hb
  have hB := hB.trans (hb.mono hB.size)
  clear hb
  obtain ⟨X0c0, X0f0, X0c1, X0f1, X0c2, X0f2, X0c3, X0f3⟩ := X0.f4
  have X0z : w.heap.size < w2.heap.size := X0.lt
  obtain ⟨Rc0, Rf0, Rc1, Rf1, Rc2, Rf2, Rc3, Rf3⟩ := R.f4
  have Rz : w.heap.size + 1 < w2.heap.size := R.lt
  go_wp2
  have hY := ((((R.set 0 (.slice none 0 0)).set 1 (.slice none 0 0)).set 2 (.int .i64 0)).set 3 (.bool false))
  have hB := ((((hB.setCell (p := ⟨w.heap.size + 1, 0, none⟩) (by simp <;> omega) (.slice none 0 0)).setCell (p := ⟨w.heap.size + 1, 1, none⟩) (by simp <;> omega) (.slice none 0 0)).setCell (p := ⟨w.heap.size + 1, 2, none⟩) (by simp <;> omega) (.int .i64 0)).setCell (p := ⟨w.heap.size + 1, 3, none⟩) (by simp <;> omega) (.bool false))
  generalize ((((w2.setCell ⟨w.heap.size + 1, 0, none⟩ (.slice none 0 0)).setCell ⟨w.heap.size + 1, 1, none⟩ (.slice none 0 0)).setCell ⟨w.heap.size + 1, 2, none⟩ (.int .i64 0)).setCell ⟨w.heap.size + 1, 3, none⟩ (.bool false)) = W at hY hB ⊢
  obtain ⟨y0, y1, y2, y3⟩ := hY.c4
  refine bodyPost_ret (v := .tuple #[.agg #[.slice none 0 0, .slice none 0 0, .int .i64 0, .bool false], .int .i64 2]) (by simp [results, Try.results26, go_sem, y0, y1, y2, y3]) rfl ?_
  exact ⟨_, _, Dk.zero, 2, rfl, hs, dkAt_zero _ _, hB⟩
theorem dWrite_5 (d : Dk) (As : Option Addr) (ns cs : Nat) (Ap : Option Addr) (np cp : Nat) (dl : Int) (ds : Bool) (S : Nat → Prop) (w : World) (hD : Hid (DkAt w S (.slice As ns cs) (.slice Ap np cp) d)) (hdl : Hid (d.left = dl)) (hds : Hid (d.stopped = ds)) (i : Int) (Ab : Option Addr) (nb cb : Nat) (b : Bs) (hr : Hid (d.runs = true)) (hh : Hid (d.hasB i = true)) (hl : nb ≤ 128) (hp : (np == 4096) = false) (hnp : Hid (np ≤ 4096)) (hpl : Hid (d.pending.length = np)) (hbl : Hid (b.length = nb)) (hb : Hid (BsAt w S (.slice Ab nb cb) b)) (hs : Hid (writeT d i b = (⟨d.sectors, d.pending ++ [⟨i, padTo b⟩], d.left, d.stopped⟩, 0))) : Calls Try.prog 26 #[.agg #[.slice As ns cs, .slice Ap np cp, .int .i64 dl, .bool ds], .int .i64 i, .slice Ab nb cb] w (RetDk (writeT d i b) S w) := by
  have HB0 : Below w.heap.size w ((w.alloc (.cells #[.slice As ns cs, .slice Ap np cp, .int .i64 dl, .bool ds] 25)).alloc (.cells #[.slice none 0 0, .slice none 0 0, .int .i64 0, .bool false] 25)) := (((Below.refl w.heap.size w).alloc (by simp <;> omega) (.cells #[.slice As ns cs, .slice Ap np cp, .int .i64 dl, .bool ds] 25)).alloc (by simp <;> omega) (.cells #[.slice none 0 0, .slice none 0 0, .int .i64 0, .bool false] 25))
  have HD0 := Lib.hid (hD.out.keep (Keeps.of HB0))
  go_enter Try.func26, Try.ntmps26
  go_wp2_with fail
  refine (dRuns_at hr HD0.out hdl hds).mono ?_
  rintro e w1 ⟨rfl, hb⟩
  have X0 := (((Box.newAt (n := w.heap.size) [.slice As ns cs, .slice Ap np cp, .int .i64 dl, .bool ds] 25 (by simp)).alloc _)).later hb
  have R := ((Box.newAt (n := w.heap.size + 1) [.slice none 0 0, .slice none 0 0, .int .i64 0, .bool false] 25 (by simp))).later hb
  have hB : Below w.heap.size w w1 := ((((Below.refl w.heap.size w).alloc (by simp <;> omega) _).alloc (by simp <;> omega) _)).trans (hb.mono (by simp <;> omega))
  clear hb
  obtain ⟨X0c0, X0f0, X0c1, X0f1, X0c2, X0f2, X0c3, X0f3⟩ := X0.f4
  have X0z : w.heap.size < w1.heap.size := X0.lt
  go_wp2_with fail
  refine (dHas_at hh (hD.out.keep (Keeps.of hB)) hdl hds).mono ?_
  rintro e w2 ⟨rfl, hb⟩
  clear X0c0 X0f0 X0c1 X0f1 X0c2 X0f2 X0c3 X0f3 X0z
  have X0 := X0.later hb
  have R := R.later hb
  have hB := hB.trans (hb.mono hB.size)
  clear hb
  obtain ⟨w3, hmk, ho3, hb3⟩ := make_bs w2
  obtain ⟨w4, hcp0, ho4, hg4⟩ := run_copB (S := S) 3 ho3 zeros_length (Nat.le_refl 128) (((hb.out.keep (Keeps.of hB)).keep (Keeps.of hb3))) hbl.out
  obtain ⟨g, hg⟩ : ∃ g, w2.heap.size = g := ⟨_, rfl⟩
  have hb4 : Below w2.heap.size w2 w4 := hb3.grown hg4 hb3.size (fun k hk => by cases hk; exact Nat.le_refl _)
  have hcp : (copF #[35, 35] 3 #[.slice (some ⟨w2.heap.size, 0, none⟩) 128 128, .slice Ab nb cb]).run Try.prog w3 = .ok (goInt (Nat.min nb 128)) w4 := hcp0
  have hpad : b.take (Nat.min nb 128) ++ zeros.drop (Nat.min nb 128) = padTo b := by
    rw [show Nat.min nb 128 = nb from Nat.min_eq_left hl, List.take_of_length_le (Nat.le_of_eq hbl.out), padTo, hbl.out]
    rw [zeros, List.drop_replicate]
  rw [hpad] at ho4
  have HO4 := Lib.hid ho4
  have X4 := X0.later hb4
  have R4 := R.later hb4
  have hB4 := hB.trans (hb4.mono hB.size)
  clear hcp0 ho3 ho4 hg4 hpad hb3
  rw [hg] at hmk hcp HO4 hb4
  obtain ⟨X0c0, X0f0, X0c1, X0f1, X0c2, X0f2, X0c3, X0f3⟩ := X0.f4
  have X0z : w.heap.size < w2.heap.size := X0.lt
  have y1 : w4.cell? ⟨w.heap.size, 1, none⟩ = some (.slice Ap np cp) := X4.cell 1
  have yz : w.heap.size < w4.heap.size := X4.lt
  go_wp2_with fail
  clear X0c0 X0f0 X0c1 X0f1 X0c2 X0f2 X0c3 X0f3 X0z y1 yz hmk hcp
  refine (dCloneW_any d.pending _ (Old S w) _ (hD.out.old.keep (Keeps.of hB4)).pending (by rw [hpl.out]; have := hnp.out; omega)).mono ?_
  rintro e w5 ⟨V, rfl, hV, hb5⟩
  obtain ⟨Av, cv, rfl, _⟩ := hV.form
  rw [hpl.out] at hV
  have X5 := X4.later hb5
  have R5 := R4.later hb5
  have hB5 := hB4.trans (hb5.mono hB4.size)
  have hO5 : BsAt w5 (fun k => g ≤ k) (.slice (some ⟨g, 0, none⟩) 128 128) (padTo b) := by
    have hlen : (padTo b).length = 128 := by rw [padTo, List.length_append, List.length_replicate, hbl.out]; omega
    exact (HO4.out.bs (by rw [hlen]; simp [maxLen])).keep (Keeps.of hb5)
  have HO5 := Lib.hid hO5
  have HV := Lib.hid hV
  have hg4 : w.heap.size + 1 < g := by rw [← hg]; exact R.lt
  have hw4 : w.heap.size + 1 < w4.heap.size := R4.lt
  clear hb5 hV hO5 X4 R4 hB4 HO4 hb4 X0 R hB
  rw [hpl.out]
  go_wp2_with fail
  refine (dClipW_any d.pending _ _ _ _ _ HV.out).mono ?_
  rintro e w6 ⟨rfl, hV, rfl⟩
  clear HV
  have hbA := (Below.refl w5.heap.size w5).alloc (Nat.le_refl _) (.cells #[.int .i64 i, .slice (some ⟨g, 0, none⟩) 128 128] 76)
  have BX := Box.new w5 [.int .i64 i, .slice (some ⟨g, 0, none⟩) 128 128] 76
  obtain ⟨v', w7, hr0, hW, hb7⟩ := run_appW d.pending ⟨i, padTo b⟩ (hV.out.keep (Keeps.of hbA)) hpl.out BX ((HO5.out.keep (Keeps.of hbA))) (by have := hnp.out; omega)
  obtain ⟨A7, c7, rfl, _⟩ := hW.form
  have hr : (appF #[23, 23] 23 #[.slice Av np np, .slice (some ⟨w5.heap.size, 0, none⟩) 1 1]).run Try.prog (w5.alloc (.cells #[.int .i64 i, .slice (some ⟨g, 0, none⟩) 128 128] 76)) = .ok _ w7 := hr0
  clear hr0
  have hlen : Hid ((d.pending ++ [(⟨i, padTo b⟩ : Wr)]).length = np + 1) := by rw [Hid, List.length_append, hpl.out]; rfl
  rw [hlen.out] at hr hW
  have HW := Lib.hid hW
  have hb75 := hbA.trans (hb7.mono hbA.size)
  have X7 := X5.later hb75
  have R7 := R5.later hb75
  have hB7 := hB5.trans (hb75.mono hB5.size)
  have X5z := R5.lt
  clear hV hW hbA BX hb7 hb75 X5 R5 hB5
  obtain ⟨y0, y1, y2, y3⟩ := X7.c4
  have yf := X7.free 1
  have yz : w.heap.size < w7.heap.size := X7.lt
  obtain ⟨r0, r1, r2, r3⟩ := R7.c4
  have f0 := R7.free 0
  have f1 := R7.free 1
  have f2 := R7.free 2
  have f3 := R7.free 3
  have rz : w.heap.size + 1 < w7.heap.size := R7.lt
  go_wp2
  have hne : w.heap.size + 1 ≠ w.heap.size := by omega
  have hs5 : w.heap.size + 1 < (w5.alloc (.cells #[.int .i64 i, .slice (some ⟨g, 0, none⟩) 128 128] 76)).heap.size := by have := X5z; simp; omega
  have ZR := ((((R7.other (a := ⟨w.heap.size, 1, none⟩) hne (.slice A7 (np + 1) c7)).set 0 (.slice As ns cs)).set 1 (.slice A7 (np + 1) c7)).set 2 (.int .i64 dl)).set 3 (.bool ds)
  have HB := ((((hB7.setCell (p := ⟨w.heap.size, 1, none⟩) (Nat.le_refl _) (.slice A7 (np + 1) c7)).setCell (p := ⟨w.heap.size + 1, 0, none⟩) (Nat.le_succ _) (.slice As ns cs)).setCell (p := ⟨w.heap.size + 1, 1, none⟩) (Nat.le_succ _) (.slice A7 (np + 1) c7)).setCell (p := ⟨w.heap.size + 1, 2, none⟩) (Nat.le_succ _) (.int .i64 dl)).setCell (p := ⟨w.heap.size + 1, 3, none⟩) (Nat.le_succ _) (.bool ds)
  have n1 : ∀ x, (x = w.heap.size ∨ x = w.heap.size + 1) → ¬ ((Grow (Grow (Old S w) w4) (w5.alloc (.cells #[.int .i64 i, .slice (some ⟨g, 0, none⟩) 128 128] 76))) x ∨ g ≤ x) := by
    intro x hx h
    rcases h with ((⟨_, h⟩ | h) | h) | h <;> omega
  have HK : Keeps (fun x => (Grow (Grow (Old S w) w4) (w5.alloc (.cells #[.int .i64 i, .slice (some ⟨g, 0, none⟩) 128 128] 76))) x ∨ g ≤ x) w7 (((((w7.setCell ⟨w.heap.size, 1, none⟩ (.slice A7 (np + 1) c7)).setCell ⟨w.heap.size + 1, 0, none⟩ (.slice As ns cs)).setCell ⟨w.heap.size + 1, 1, none⟩ (.slice A7 (np + 1) c7)).setCell ⟨w.heap.size + 1, 2, none⟩ (.int .i64 dl)).setCell ⟨w.heap.size + 1, 3, none⟩ (.bool ds)) :=
    Keeps.trans (Keeps.trans (Keeps.trans (Keeps.trans (Keeps.set _ (n1 _ (.inl rfl)) _) (Keeps.set _ (n1 _ (.inr rfl)) _)) (Keeps.set _ (n1 _ (.inr rfl)) _)) (Keeps.set _ (n1 _ (.inr rfl)) _)) (Keeps.set _ (n1 _ (.inr rfl)) _)
  have HP := HW.out.keep HK
  generalize ((((w7.setCell ⟨w.heap.size, 1, none⟩ (.slice A7 (np + 1) c7)).setCell ⟨w.heap.size + 1, 0, none⟩ (.slice As ns cs)).setCell ⟨w.heap.size + 1, 1, none⟩ (.slice A7 (np + 1) c7)).setCell ⟨w.heap.size + 1, 2, none⟩ (.int .i64 dl)).setCell ⟨w.heap.size + 1, 3, none⟩ (.bool ds) = W at ZR HB HP ⊢
  obtain ⟨z0, z1, z2, z3⟩ := ZR.c4
  refine bodyPost_ret (v := .tuple #[.agg #[.slice As ns cs, .slice A7 (np + 1) c7, .int .i64 dl, .bool ds], .int .i64 0]) (by simp [results, Try.results26, go_sem, z0, z1, z2, z3]) rfl ?_
  refine ⟨_, _, _, 0, by rw [Dk.v, hdl.out, hds.out], hs, Lib.hid ⟨(hD.out.sectors.keep (Keeps.of HB)).weak (fun b h _ => .inl h), HP.weak (fun b h _ => ?_)⟩, HB⟩
  rcases h with ((⟨h, _⟩ | h) | h) | h
  · exact .inl h
  · exact .inr (by omega)
  · exact .inr (by omega)
  · exact .inr (by omega)
theorem dWrite_any (d : Dk) (Vs Vp : Value) (i : Int) (Vb : Value) (b : Bs) (S : Nat → Prop) (w : World) (hD : DkAt w S Vs Vp d) (hb : BsAt w S Vb b) : Calls Try.prog 26 #[d.v Vs Vp, .int .i64 i, Vb] w (RetDk (writeT d i b) S w) := by
  obtain ⟨As, cs, rfl, _⟩ := hD.sectors.form
  obtain ⟨Ap, cp, rfl, _⟩ := hD.pending.form
  obtain ⟨Ab, cb, rfl, hbm⟩ := hb.form
  rcases hr : d.runs with _ | _
  · exact dWrite_1 d As _ cs Ap _ cp _ _ S w hD rfl rfl i Ab _ cb b hr (by rw [Hid, writeT, if_neg (by rw [hr]; simp)])
  · rcases hh : d.hasB i with _ | _
    · exact dWrite_2 d As _ cs Ap _ cp _ _ S w hD rfl rfl i Ab _ cb b hr hh (by rw [Hid, writeT, if_neg (by rw [hh]; simp)])
    · by_cases hl : b.length ≤ 128
      · by_cases hp : d.pending.length = 4096
        · exact dWrite_4 d As _ cs Ap _ cp _ _ S w hD rfl rfl i Ab _ cb b hr hh hl (by simp [hp]) (by rw [Hid, writeT, if_pos ⟨hr, hh⟩, if_pos hl, if_pos hp])
        · exact dWrite_5 d As _ cs Ap _ cp _ _ S w hD rfl rfl i Ab _ cb b hr hh hl (by simp [hp]) (okB_parts (runs_ok hr).1).2.2.1 rfl rfl hb (by rw [Hid, writeT, if_pos ⟨hr, hh⟩, if_pos hl, if_neg hp])
      · exact dWrite_3 d As _ cs Ap _ cp _ _ S w hD rfl rfl i Ab _ cb b hr hh (by omega) (by simpa [maxLen] using hbm) (by rw [Hid, writeT, if_pos ⟨hr, hh⟩, if_neg hl])
end Go.Proofs.Ythlidhfahaalgaa
namespace Go.Proofs.Ythlidhfahaalgaa
open Go.RowKit
attribute [local go_sem ↓ high] app_named cop_named
def RetD1 (t : Dk) (S : Nat → Prop) (w : World) (e : Ending) (w' : World) : Prop := ∃ (Vs Vp : Value) (m : Dk), e = .returned (m.v Vs Vp) ∧ Hid (t = m) ∧ Hid (DkAt w' (Grow S w) Vs Vp m) ∧ Below w.heap.size w w'
end Go.Proofs.Ythlidhfahaalgaa
