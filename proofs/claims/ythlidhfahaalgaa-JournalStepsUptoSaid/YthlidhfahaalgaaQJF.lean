/- The walks of put and encode. No condition but the lengths. -/
import Derived.Test.YthlidhfahaalgaaQJD
import Derived.Deep.CutBlock
import Derived.Test.YthlidhfahaalgaaQK
import Derived.Deep.Quiet
set_option linter.unusedVariables false
set_option linter.unusedSimpArgs false
set_option maxRecDepth 100000
set_option maxHeartbeats 4000000
namespace Go.Proofs.Ythlidhfahaalgaa
open Go.RowKit
attribute [local go_sem ↓ high] app_named cop_named
theorem numeral_cons (g i : Nat) : numeral g (i + 1) = UInt8.ofNat (g / 256 ^ i) :: numeral g i := by
  induction i generalizing g with
  | zero => simp [numeral]
  | succ i ih =>
    rw [numeral, ih, numeral, List.cons_append, Nat.div_div_eq_div_mul, Nat.mul_comm, ← Nat.pow_succ]
def putL (l : Bs) (m e g i : Nat) : Bs := l.take (m - i) ++ (numeral g i ++ l.drop e)
theorem putL_set {l : Bs} {m e g i : Nat} (hi : i < m) (hm : m ≤ l.length) : (putL l m e g i).set (m - (i + 1)) (UInt8.ofNat (g / 256 ^ i)) = putL l m e g (i + 1) := by
  unfold putL
  obtain ⟨k, hk⟩ : ∃ k, m - i = k + 1 := ⟨m - i - 1, by omega⟩
  rw [hk, show m - (i + 1) = k by omega, numeral_cons, List.set_append_left _ _ (by rw [List.length_take]; omega), List.take_succ_eq_append_getElem (by omega), List.set_append_right _ _ (by rw [List.length_take]; omega)]
  rw [List.length_take, show k - min k l.length = 0 by omega, List.set_cons_zero, List.append_assoc, List.cons_append]
  rfl
theorem putL_length {l : Bs} {m e g i : Nat} (hi : i ≤ m) (he : m ≤ e) (hl : e ≤ l.length) : (putL l m e g i).length = m + (l.length - e) := by
  simp [putL, numeral_length]; omega
theorem byV_setJ (l : Bs) (k : Nat) (x : UInt8) : byV (l.set k x) = (byV l).set k (.int .u8 (x.toNat : Int)) := by
  simp [byV, List.map_set]
theorem digit_eq (g k : Nat) : ((g : Int) / 2 ^ (8 * k) % 256) = ((UInt8.ofNat (g / 256 ^ k)).toNat : Int) := by
  rw [UInt8.toNat_ofNat', show (256 : Nat) ^ k = 2 ^ (8 * k) by rw [Nat.pow_mul]]
  have e : ((2 ^ (8 * k) : Nat) : Int) = (2 : Int) ^ (8 * k) := by simp
  rw [← e]
  omega
theorem jPut_any (l : Bs) (a off n c g : Nat) (w : World) (h : Box w a (byV l)) (hin : off + n ≤ l.length) (hn : n ≤ 4) :
    Calls Try.prog 64 #[.slice (some ⟨a, off, none⟩) n c, .int .u64 g] w fun e w' => e = .returned (.tuple #[]) ∧ Box w' a (byV (putL l (off + n) (off + n) g n)) ∧ Below a w w' := by
  go_enter Try.func64, Try.ntmps64
  go_wp2_with fail
  go_loopw [7] (fun i wr => ∃ k : Nat, k ≤ n ∧ i = .int .i64 k ∧ Box wr a (byV (putL l (off + n) (off + n) g k)) ∧ Below a w wr) (fun i _ => n - (intOf i).toNat)
  case atStart => exact ⟨0, by omega, rfl, by simpa [putL, numeral] using h, Below.refl _ _⟩
  case round =>
    clear h
    obtain ⟨k, hk, rfl, h, hK⟩ := hrel
    rcases Nat.lt_or_ge k n with hlt | hge
    rotate_left
    · obtain rfl : k = n := by omega
      go_wp2
      refine bodyPost_end (results_none rfl _ _ _) rfl ?_
      exact ⟨rfl, h, hK⟩
    have hk7 : (k : Int) < (n : Int) := by omega
    have hpl : (putL l (off + n) (off + n) g k).length = l.length := by rw [putL_length (by omega) (by omega) hin]; omega
    have hset := putL_set (l := l) (m := off + n) (e := off + n) (g := g) (i := k) (by omega) hin
    rw [show off + n - (k + 1) = off + (n - 1 - k) by omega] at hset
    have hc := h.cell (off + (n - 1 - k))
    rw [byV, List.getElem?_map, List.getElem?_eq_getElem (by omega)] at hc
    have hf := h.free (off + (n - 1 - k))
    simp only [Option.map_some] at hc
    have hh := (h.set (off + (n - 1 - k)) (.int .u8 ((UInt8.ofNat (g / 256 ^ k)).toNat : Int)))
    rw [← byV_setJ, hset] at hh
    have HH := Lib.hid hh
    clear hset hh
    generalize (putL l (off + n) (off + n) g k)[off + (n - 1 - k)]'(by omega) = y at hc
    go_wp2_with fail
    rw [digit_eq]
    exact ⟨⟨k + 1, by omega, by go_num, HH.out, hK.setCell (p := ⟨a, off + (n - 1 - k), none⟩) (Nat.le_refl _) _⟩, by simp [intOf] <;> omega⟩
theorem copy_box {w : World} {a off d dc m mc : Nat} {A : Option Addr} {S : Nat → Prop} {l b : Bs} (ty : TypeId) (h : Box w a (byV l)) (hb : BsAt w S (.slice A m mc) b) (hm : b.length = m) (hd : m ≤ d) (hin : off + d ≤ l.length) :
    ∃ w', (copF #[35, 35] ty #[.slice (some ⟨a, off, none⟩) d dc, .slice A m mc]).run Try.prog w = .ok (goInt m) w' ∧ Box w' a (byV (l.take off ++ (b ++ l.drop (off + m)))) ∧ Below a w w' := by
  have hs : (Try.prog.info? 5).map (·.size) = some 1 := by kernel_rfl
  have hmin : Nat.min m d = m := Nat.min_eq_left hd
  unfold copF
  rcases Nat.eq_zero_or_pos m with h0 | h0
  · subst h0
    obtain rfl : b = [] := List.eq_nil_of_length_eq_zero hm
    refine ⟨w, run_copy_none w _ _ ty 5 _ _ _ _ _ _ Try.underlying35 hs hmin, ?_, Below.refl _ _⟩
    simpa using h
  · obtain ⟨ab, ao, rfl, _⟩ := hb.cell (k := 0) (by omega)
    obtain ⟨t, ht⟩ := h
    have hr := run_copy_row (P := Try.prog) w 35 35 ty 5 a off d dc ⟨ab, ao, none⟩ m mc (byV l).toArray t (byV b) Try.underlying35 hs ht (by rw [byV_length, hm, hmin]) (fun j v hv => by
      have hj : j < b.length := by have := (List.getElem?_eq_some_iff.1 hv).1; rwa [byV_length] at this
      obtain ⟨b', o', e, _, _, hc⟩ := hb.cell (k := j) (by omega)
      cases e
      rw [add_at, hc]
      rw [byV, List.getElem?_map, List.getElem?_eq_getElem hj] at hv
      rw [List.getD_eq_getElem?_getD, List.getElem?_eq_getElem hj]
      exact hv) (by simp [byV_length]; omega) (fun v hv => by
      obtain ⟨x, _, rfl⟩ := List.mem_map.1 hv
      rfl)
    rw [byV_length, hm] at hr
    refine ⟨_, hr, ⟨t, ?_⟩, ⟨rfl, rfl, rfl, by simp [World.setRow], fun b hb => setRow_other w a b _ (by omega)⟩⟩
    rw [World.setRow, Array.getElem?_modify, if_pos rfl, ht]
    simp [byV]
end Go.Proofs.Ythlidhfahaalgaa
namespace Go.Proofs.Ythlidhfahaalgaa
open Go.RowKit
def fill1 (g : Nat) : Bs := numeral g 4 ++ List.replicate 124 0
def fill2 (g k : Nat) : Bs := numeral g 4 ++ (List.replicate 4 0 ++ (numeral k 2 ++ List.replicate 118 0))
def fill3 (g k : Nat) (c n : UInt8) : Bs := numeral g 4 ++ (List.replicate 4 0 ++ (numeral k 2 ++ (c :: n :: List.replicate 116 0)))
def fill4 (g k : Nat) (c n : UInt8) (b : Bs) : Bs := numeral g 4 ++ (List.replicate 4 0 ++ (numeral k 2 ++ (c :: n :: (b ++ List.replicate (116 - b.length) 0))))
def fill5 (g k : Nat) (c : UInt8) (b : Bs) : Bs := numeral g 4 ++ (List.replicate 4 0 ++ (bodyT k c b ++ numeral g 4))
theorem take_app {p q : Bs} {n : Nat} (h : p.length = n) : (p ++ q).take n = p := by rw [← h]; exact List.take_left
theorem drop_app {p q : Bs} {n : Nat} (h : p.length = n) : (p ++ q).drop n = q := by rw [← h]; exact List.drop_left
theorem putL_mid {p q r : Bs} {g n e : Nat} (hp : p.length + n = e) (hq : q.length = n) : putL (p ++ (q ++ r)) e e g n = p ++ (numeral g n ++ r) := by
  unfold putL
  rw [take_app (by omega), ← List.append_assoc p q r, drop_app (by rw [List.length_append]; omega)]
theorem fill1_is (g : Nat) : putL (List.replicate 128 0) 4 4 g 4 = fill1 g := by
  have := putL_mid (p := []) (q := List.replicate 4 0) (r := List.replicate 124 0) (g := g) (n := 4) (e := 4) rfl (by simp)
  rwa [List.nil_append, List.replicate_append_replicate] at this
theorem fill2_is (g k : Nat) : putL (fill1 g) 10 10 k 2 = fill2 g k := by
  have := putL_mid (p := numeral g 4 ++ List.replicate 4 0) (q := List.replicate 2 0) (r := List.replicate 118 0) (g := k) (n := 2) (e := 10) (by simp [numeral_length]) (by simp)
  rw [List.replicate_append_replicate, List.append_assoc, List.append_assoc, List.replicate_append_replicate] at this
  exact this
theorem fill3_is (g k : Nat) (c n : UInt8) : ((fill2 g k).set 10 c).set 11 n = fill3 g k c n := by
  have e : ∀ (p r : Bs) (x y c n : UInt8), p.length = 10 → ((p ++ (x :: y :: r)).set 10 c).set 11 n = p ++ (c :: n :: r) := by
    intro p r x y c n hp
    rw [List.set_append_right _ _ (by omega), List.set_append_right _ _ (by omega), hp]
    rfl
  have := e (numeral g 4 ++ (List.replicate 4 0 ++ numeral k 2)) (List.replicate 116 0) 0 0 c n (by simp [numeral_length])
  rw [List.append_assoc, List.append_assoc, List.append_assoc, List.append_assoc] at this
  exact this
theorem fill4_is (g k : Nat) (c n : UInt8) (b : Bs) (hb : b.length ≤ 112) : (fill3 g k c n).take 12 ++ (b ++ (fill3 g k c n).drop (12 + b.length)) = fill4 g k c n b := by
  have e : fill3 g k c n = (numeral g 4 ++ (List.replicate 4 0 ++ (numeral k 2 ++ [c, n]))) ++ List.replicate 116 0 := by simp [fill3]
  rw [e, take_app (by simp [numeral_length]), show 12 + b.length = (numeral g 4 ++ (List.replicate 4 0 ++ (numeral k 2 ++ [c, n]))).length + b.length by simp [numeral_length], List.drop_append, List.drop_replicate]
  simp [fill4, numeral_length]
theorem fill5_is (g k : Nat) (c : UInt8) (b : Bs) (hb : b.length ≤ 112) : putL (fill4 g k c (UInt8.ofNat b.length) b) 128 128 g 4 = fill5 g k c b := by
  have := putL_mid (p := numeral g 4 ++ (List.replicate 4 0 ++ bodyT k c b)) (q := List.replicate 4 0) (r := []) (g := g) (n := 4) (e := 128) (by simp [numeral_length, bodyT_length k c hb]) (by simp)
  have e : fill4 g k c (UInt8.ofNat b.length) b = (numeral g 4 ++ (List.replicate 4 0 ++ bodyT k c b)) ++ (List.replicate 4 0 ++ []) := by
    simp only [fill4, bodyT, padZ, List.append_assoc, List.cons_append, List.append_nil, List.replicate_append_replicate]
    rw [show 112 - b.length + 4 = 116 - b.length by omega]
  rw [e, this]
  simp [fill5]
theorem fill5_sum (g k : Nat) (c : UInt8) (b : Bs) (hb : b.length ≤ 112) : ((fill5 g k c b).drop 8).take 116 = bodyT k c b := by
  rw [fill5, ← List.append_assoc, drop_app (by simp [numeral_length]), take_app (bodyT_length k c hb)]
theorem fill6_is (g k : Nat) (c : UInt8) (b : Bs) : putL (fill5 g k c b) 8 8 (sumT (bodyT k c b)) 4 = encT g k c b :=
  putL_mid (by simp [numeral_length]) (by simp)
theorem fill_lens (g k : Nat) (c n : UInt8) (b : Bs) (hb : b.length ≤ 112) : (fill1 g).length = 128 ∧ (fill2 g k).length = 128 ∧ (fill3 g k c n).length = 128 ∧ (fill4 g k c n b).length = 128 ∧ (fill5 g k c b).length = 128 := by
  refine ⟨by simp [fill1, numeral_length], by simp [fill2, numeral_length], by simp [fill3, numeral_length], by simp [fill4, numeral_length]; omega, by simp [fill5, numeral_length, bodyT_length k c hb]⟩
theorem byV_zeros (n : Nat) : byV (List.replicate n 0) = List.replicate n (.int .u8 0) := by simp [byV]
theorem box_bs {w : World} {a n : Nat} {l : Bs} (h : Box w a (byV l)) (off m c : Nat) (hn : l.length = n) (hm : off + m ≤ n) (hc : m ≤ c) (hc2 : c ≤ 128) : BsAt w (fun b => b = a) (.slice (some ⟨a, off, none⟩) m c) ((l.drop off).take m) := by
  have hl : ((l.drop off).take m).length = m := by simp; omega
  refine ⟨.inr ⟨_, _, _, rfl, hc, by simp only [maxLen]; omega⟩, some ⟨a, off, none⟩, c, by rw [hl], by rw [hl]; simp only [maxLen]; omega, fun i hi => ⟨a, off, rfl, rfl, h.lt, fun j hj => ?_⟩⟩
  obtain rfl : j = 0 := by omega
  rw [hl] at hi
  rw [Nat.mul_one, Nat.add_zero, h.cell, byV, List.getElem?_map, List.getElem?_eq_getElem (by omega)]
  dsimp only [Option.map_some]
  rw [List.getD_eq_getElem?_getD, List.getElem?_take_of_lt hi, List.getElem?_drop, List.getElem?_eq_getElem (by omega)]
  rfl
theorem jSum_at {l : Bs} {A : Option Addr} {n c T : Nat} {S : Nat → Prop} {w : World} (h : BsAt w S (.slice A n c) l) (hn : l.length = n) (hT : sumT l = T) : Calls Try.prog 65 #[.slice A n c] w fun e w' => e = .returned (.int .u32 (T : Nat)) ∧ w' = w := by
  subst hn hT
  exact jSum_any l A c S w (Lib.hid h)
theorem jGet_at {l : Bs} {A : Option Addr} {n c T : Nat} {S : Nat → Prop} {w : World} (h : BsAt w S (.slice A n c) l) (hn : l.length = n) (hn4 : n ≤ 4) (hT : numT l = T) : Calls Try.prog 41 #[.slice A n c] w fun e w' => e = .returned (.int .u64 (T : Nat)) ∧ w' = w := by
  subst hn hT
  exact jGet_any l A c S w (Lib.hid h) hn4
theorem zeros_cells : (byV (List.replicate 128 0)).toArray = Try.zeroCells89 := by
  rw [byV_zeros]
  exact (by kernel_rfl : (List.replicate 128 (Value.int .u8 0)).toArray = Try.zeroCells89)
end Go.Proofs.Ythlidhfahaalgaa
namespace Go.Proofs.Ythlidhfahaalgaa
open Go.RowKit
attribute [local go_sem ↓ high] app_named cop_named
theorem jEncode_any (g k : Nat) (kind : UInt8) (b : Bs) (A : Option Addr) (m mc : Nat) (S : Nat → Prop) (w : World) (hb0 : Hid (BsAt w S (.slice A m mc) b)) (hm : Hid (b.length = m)) (hm2 : m ≤ 112) (hk : k < 65536) :
    Calls Try.prog 44 #[.int .u64 g, .int .i64 k, .int .u8 (kind.toNat : Int), .slice A m mc] w fun e w' => ∃ gb, e = .returned (.slice (some ⟨gb, 0, none⟩) 128 128) ∧ w.heap.size ≤ gb ∧ Box w' gb (byV (encT g k kind b)) ∧ Below w.heap.size w w' := by
  have hb112 : b.length ≤ 112 := by rw [hm.out]; exact hm2
  obtain ⟨l1, l2, l3, l4, l5⟩ := fill_lens g k kind (UInt8.ofNat b.length) b hb112
  have Z : Box (w.alloc (.cells Try.zeroCells89 89)) w.heap.size (byV (List.replicate 128 0)) := by
    have := Box.new w (byV (List.replicate 128 0)) 89
    rwa [zeros_cells] at this
  have hB := (Below.refl w.heap.size w).alloc (Nat.le_refl _) (.cells Try.zeroCells89 89)
  have hk2 : IntKind.u64.wrap (k : Int) = (k : Int) := wrap_u64_nat (by omega)
  have em : ((UInt8.ofNat m).toNat : Int) = (m : Int) := by rw [UInt8.toNat_ofNat']; omega
  go_enter Try.func44, Try.ntmps44
  go_wp2_with fail
  generalize w.alloc (.cells Try.zeroCells89 89) = w0 at Z hB ⊢
  refine (jPut_any _ w.heap.size 0 4 128 g w0 Z (by simp) (by omega)).mono ?_
  rintro e w1 ⟨rfl, X, hb⟩
  rw [Nat.zero_add, fill1_is] at X
  replace hB := hB.trans hb
  clear hb Z
  go_wp2_with fail
  refine (jPut_any _ w.heap.size 8 2 120 k w1 X (by omega) (by omega)).mono ?_
  rintro e w2 ⟨rfl, X2, hb⟩
  rw [fill2_is] at X2
  replace hB := hB.trans hb
  clear hb X
  have c10 := X2.cell 10
  have f10 := X2.free 10
  have c11 := X2.cell 11
  have f11 := X2.free 11
  have hz := X2.lt
  rw [byV, List.getElem?_map, List.getElem?_eq_getElem (by omega)] at c10 c11
  dsimp only [Option.map_some] at c10 c11
  generalize (fill2 g k)[10]'(by omega) = y10 at c10
  generalize (fill2 g k)[11]'(by omega) = y11 at c11
  have X3 := (X2.set 10 (.int .u8 (kind.toNat : Int))).set 11 (.int .u8 ((UInt8.ofNat m).toNat : Int))
  rw [← byV_setJ, ← byV_setJ, ← hm.out, fill3_is, hm.out] at X3
  have hB3 := (hB.setCell (p := ⟨w.heap.size, 10, none⟩) (Nat.le_refl _) (.int .u8 (kind.toNat : Int))).setCell (p := ⟨w.heap.size, 11, none⟩) (Nat.le_refl _) (.int .u8 ((UInt8.ofNat m).toNat : Int))
  rw [em] at X3 hB3
  clear em
  go_upto_region 5 with fail
  generalize (w2.setCell ⟨w.heap.size, 10, none⟩ (.int .u8 (kind.toNat : Int))).setCell ⟨w.heap.size, 11, none⟩ (.int .u8 (m : Int)) = w3 at X3 hB3 ⊢
  clear c10 f10 c11 f11 hz X2 hB
  obtain ⟨w4, hr, X4, hb⟩ := copy_box (off := 12) (d := 116) (dc := 116) 3 X3 (hb0.out.keep (Keeps.of hB3)) hm.out (by omega) (by rw [← hm.out]; omega)
  rw [← hm.out, fill4_is _ _ _ _ _ hb112] at X4
  have hB := hB3.trans hb
  have hz := X3.lt
  go_upto_region 6 with fail
  clear hb hB3 X3 hr hz
  have hz := X4.lt
  go_wp2_with fail
  refine (jPut_any _ w.heap.size 124 4 4 g w4 X4 (by omega) (by omega)).mono ?_
  rintro e w5 ⟨rfl, X5, hb⟩
  rw [show 124 + 4 = 128 from rfl, fill5_is _ _ _ _ hb112] at X5
  replace hB := hB.trans hb
  clear hb X4 hz
  have hz := X5.lt
  obtain ⟨T, hT⟩ : ∃ T, sumT (bodyT k kind b) = T := ⟨_, rfl⟩
  have hT2 : T < 4294967296 := by rw [← hT]; exact sumT_lt _
  have hT3 : IntKind.u64.wrap (T : Int) = (T : Int) := wrap_u64_nat (by omega)
  have h6 : putL (fill5 g k kind b) 8 8 T 4 = encT g k kind b := by rw [← hT]; exact fill6_is g k kind b
  have HS : BsAt w5.drew (fun b => b = w.heap.size) (.slice (some ⟨w.heap.size, 8, none⟩) 116 120) (bodyT k kind b) := by
    have := box_bs X5.drew 8 116 120 l5 (by omega) (by omega) (by omega)
    rwa [fill5_sum _ _ _ _ hb112] at this
  have hlb := bodyT_length k kind hb112
  go_upto_region 7 with fail
  go_region_with (first | (go_at_call 65; refine (jSum_at HS hlb hT).mono ?_; rintro e wz ⟨rfl, rfl⟩) | (go_at_call 64; refine (jPut_any _ w.heap.size 4 4 124 T w5.drew X5.drew (by omega) (by omega)).mono ?_; rintro e w6 ⟨rfl, X6, hb⟩))
  all_goals
    rw [h6] at X6
    have hB6 := (hB.drew).trans hb
    have hz := X6.lt
    go_wp2
    go_ret
    exact ⟨_, rfl, Nat.le_refl _, X6, hB6⟩
end Go.Proofs.Ythlidhfahaalgaa
namespace Go.Proofs.Ythlidhfahaalgaa
open Go.RowKit
theorem BsAt.sub {w : World} {S : Nat → Prop} {b off n c : Nat} {l : Bs} (h : BsAt w S (.slice (some ⟨b, off, none⟩) n c) l) (i m c' : Nat) (him : i + m ≤ n) (hc : m ≤ c') (hc2 : c' ≤ maxLen) (hl : l.length = n) : BsAt w S (.slice (some ⟨b, off + i, none⟩) m c') ((l.drop i).take m) := by
  have hlen : ((l.drop i).take m).length = m := by simp; omega
  refine ⟨.inr ⟨_, _, _, rfl, hc, hc2⟩, some ⟨b, off + i, none⟩, c', by rw [hlen], by rw [hlen]; omega, fun j hj => ?_⟩
  rw [hlen] at hj
  obtain ⟨b', o', e, hS, hb, hcell⟩ := h.cell (k := i + j) (by omega)
  cases e
  refine ⟨b, off + i, rfl, hS, hb, fun q hq => ?_⟩
  obtain rfl : q = 0 := by omega
  rw [Nat.mul_one, Nat.add_zero, Nat.add_assoc, hcell]
  dsimp only
  rw [List.getD_eq_getElem?_getD, List.getD_eq_getElem?_getD, List.getElem?_take_of_lt hj, List.getElem?_drop]
theorem jEqual_any {a b : Bs} {A B : Option Addr} {n c m d : Nat} {S T : Nat → Prop} {w : World} {t : Bool} (ha : BsAt w S (.slice A n c) a) (hb : BsAt w T (.slice B m d) b) (ht : decide (a = b) = t) :
    Calls Try.prog 43 #[.slice A n c, .slice B m d] w fun e w' => e = .returned (.bool t) ∧ w' = w := by
  have h1 := ha.str
  have h2 := hb.str
  obtain ⟨e1, e2, e3⟩ := str_cmp ht
  clear ha hb
  go_enter Try.func43, Try.ntmps43
  go_wp2
  go_ret
  exact ⟨rfl, rfl⟩
end Go.Proofs.Ythlidhfahaalgaa
namespace Go.Proofs.Ythlidhfahaalgaa
open Go.RowKit
def Nrm (N : Act → World → Prop) : Exit → Act → World → Prop
  | .normal, a, w => N a w
  | _, _, _ => False
theorem nrm_out (N : Act → World → Prop) : ¬ LetsOut (Nrm N) := fun ⟨_, _, h⟩ => h
section
variable {P : Program} {ops : Array Oper} {md : Region.Mode} {N : Act → World → Prop} {C : World → Prop}
theorem wpOp_go {Q : Exit → Act → World → Prop} {j : Nat} {o : Oper} (hj : ops[j]? = some o) {K K' : Act → World → Prop} {a b : Act} {w : World} (hr : execOp b.eval o = execOp a.eval o)
    (hw : Region.wanted o (yielded ops b.tmps) = Region.wanted o (yielded ops a.tmps)) (hd : b.defers = a.defers) (h : wpOp P ops (Nrm N) j K b w)
    (hK : ∀ u D w', K (Act.put { b with defers := D } o.dst u) w' → K' (Act.put { a with defers := D } o.dst u) w') : wpOp P ops Q j K' a w := by
  have H : ∀ u w', K (b.put o.dst u) w' → K' (a.put o.dst u) w' := fun u w' hk => by
    have := hK u a.defers w'
    rw [← hd] at this
    rw [hd] at this
    have e : ({ b with defers := a.defers } : Act) = b := by rw [← hd]
    rw [e] at this
    exact this hk
  unfold wpOp at h ⊢
  simp only [hj, hw] at h ⊢
  split
  · rename_i hw
    simp only [hw, if_true] at h
    rcases h with h | h
    · refine .inl ?_
      unfold Oper.wp at h ⊢
      rw [hr] at h
      generalize (execOp a.eval o).run P w = r at h ⊢
      rcases r with ⟨n, w'⟩ | ⟨x, w'⟩
      · have HD : ∀ d, K (Act.put { b with defers := d :: b.defers } o.dst undef) w' → K' (Act.put { a with defers := d :: a.defers } o.dst undef) w' := fun d hk => by
          rw [hd] at hk
          exact hK undef (d :: a.defers) w' hk
        cases n
        all_goals first
          | exact H _ _ h
          | exact False.elim h
          | exact HD _ h
          | (refine Calls.mono h fun e w'' he => ?_; cases e <;> first | exact H _ _ he | exact he.elim | exact (nrm_out N he).elim)
          | exact Rows.mono h fun u w'' he => H _ _ he
      · cases x <;> exact False.elim h
    · exact (nrm_out N h.2).elim
  · rename_i hw
    simp only [hw] at h
    exact H _ _ h
def anyC (P : Program) (md : Region.Mode) (ops : Array Oper) (N : Act → World → Prop) (C : World → Prop) : Nat → Array Bool → Act → World → Prop
  | 0, listed, a, w => C w ∧ Region.ready md ops listed = [] ∧ N a w
  | n + 1, listed, a, w => C w ∧ (Region.ready md ops listed = [] → N a w) ∧ ∀ i ∈ Region.ready md ops listed, wpOp P ops (Nrm N) i (anyC P md ops N C n (listed.setIfInBounds i true)) a w
theorem anyC_world : ∀ {n : Nat} {listed : Array Bool} {a : Act} {w : World}, anyC P md ops N C n listed a w → C w
  | 0, _, _, _, h => h.1
  | _ + 1, _, _, _, h => h.1
theorem anyC_any {Q : Exit → Act → World → Prop} (hN : ∀ a w, N a w → Q .normal a w) : ∀ {n : Nat} {listed : Array Bool} {a : Act} {w : World}, anyC P md ops N C n listed a w → wpAny P md ops Q n listed a w
  | 0, _, _, _, h => ⟨h.2.1, hN _ _ h.2.2⟩
  | n + 1, listed, a, w, h => ⟨fun h0 => hN _ _ (h.2.1 h0), fun i hi => by
      obtain ⟨_, o, ho, _⟩ := mem_ready.1 hi
      exact wpOp_go ho rfl rfl rfl (h.2.2 i hi) fun _ _ _ hk => anyC_any hN hk⟩
def YieldsC (P : Program) (ops : Array Oper) (C : World → Prop) (o : Oper) (v : Value) (a : Act) : Prop :=
  (Region.wanted o (yielded ops a.tmps) = true ∧ ∀ w, C w → (execOp a.eval o).run P w = .ok (.value v) w) ∨ (Region.wanted o (yielded ops a.tmps) = false ∧ v = undef)
theorem YieldsC.wpOp {Q : Exit → Act → World → Prop} {i : Nat} {o : Oper} {v : Value} {a : Act} {w : World} (hi : ops[i]? = some o) (h : YieldsC P ops C o v a) (hC : C w) {K : Act → World → Prop} (hK : K (a.put o.dst v) w) : wpOp P ops Q i K a w := by
  unfold Go.wpOp
  rcases h with ⟨h1, h2⟩ | ⟨h1, rfl⟩
  · simp only [hi, h1, if_true]
    exact .inl (by unfold Oper.wp; rw [h2 w hC]; exact hK)
  · simp only [hi, h1, Bool.false_eq_true, if_false]
    exact hK
theorem anyC_first {i : Nat} {oi : Oper} {v : Value} (hi : ops[i]? = some oi) (hsel : ∀ (j : Nat) (o : Oper) cs b, ops[j]? = some o → o.op ≠ .select cs b) :
    ∀ (n : Nat) (listed : Array Bool) (a : Act) (w : World),
      (∀ j oj, ops[j]? = some oj → j ≠ i → listed.getD j true = false → (∀ e ∈ oj.after, Region.binds md e = true → e.on ≠ i) → oi.apart ops oj = true) →
      i ∈ Region.ready md ops listed → YieldsC P ops C oi v a →
      anyC P md ops N C n (listed.setIfInBounds i true) (a.put oi.dst v) w → anyC P md ops N C (n + 1) listed a w
  | n, listed, a, w, hfree, hr, hy, H => by
    have hC := anyC_world H
    refine ⟨hC, fun h => (by rw [h] at hr; cases hr), fun j hj => ?_⟩
    by_cases hji : j = i
    · subst hji; exact hy.wpOp hi hC H
    · have hjr := ready_mono (i := i) hj hji
      match n, H with
      | 0, H =>
        rw [H.2.1] at hjr
        cases hjr
      | n + 1, H =>
        obtain ⟨hjun, oj, hoj, hall⟩ := mem_ready.1 hj
        have hiun := (mem_ready.1 hr).1
        have hnot : ∀ e ∈ oj.after, Region.binds md e = true → e.on ≠ i := fun e he hb heq => by
          have h1 := hall e he hb
          rw [heq] at h1
          rcases Nat.lt_or_ge i listed.size with h' | h'
          · simp [h'] at hiun h1; rw [hiun] at h1; cases h1
          · simp [Array.getElem?_eq_none h'] at h1
        obtain ⟨h1, h2, h3⟩ := Oper.apart_spec (hfree j oj hoj hji hjun hnot)
        refine wpOp_go hoj (execOp_put oj (fun cs b => hsel j oj cs b hoj) a oi.dst v h1) (wanted_put oj a oi.dst v h1) (by cases oi.dst <;> rfl) (H.2.2 j hjr) fun u D w' hk => ?_
        refine anyC_first (v := v) hi hsel n _ _ _ (fun k ok hk hki hun hno => hfree k ok hk hki ?_ hno) (ready_mono hr (Ne.symm hji)) ?_ ?_
        · by_cases hjk : j = k
          · subst hjk; exact hjun
          · rw [getD_set_ne true hjk] at hun; exact hun
        · have e1 : execOp (Act.put { a with defers := D } oj.dst u).eval oi = execOp a.eval oi := execOp_put oi (fun cs b => hsel i oi cs b hi) { a with defers := D } oj.dst u h3
          have e2 := wanted_put oi { a with defers := D } oj.dst u h3
          rcases hy with ⟨y1, y2⟩ | ⟨y1, y2⟩
          · exact .inl ⟨e2.trans y1, fun w hw => by rw [e1]; exact y2 w hw⟩
          · exact .inr ⟨e2.trans y1, y2⟩
        · rw [Array.setIfInBounds_comm _ _ hji]
          have e3 : ({ a.put oi.dst v with defers := D } : Act) = Act.put { a with defers := D } oi.dst v := by cases oi.dst <;> rfl
          rw [e3, Act.put_comm _ v u h2] at hk
          exact hk
def valOp : Op → Bool
  | .move _ => true
  | .assign _ => true
  | .load _ _ => true
  | .build _ _ => true
  | .binOp _ _ _ _ _ => true
  | .fieldAddr _ _ _ => true
  | .indexAddr _ _ _ => true
  | .slice _ _ _ _ _ => true
  | .convert _ _ _ => true
  | .unOp _ _ _ => true
  | .pick _ _ _ => true
  | .extract _ _ => true
  | _ => false
theorem value_only {s : Sem Value} {w w' : World} {n : Next} (h : (do pure (Next.value (← s)) : Sem Next).run P w = .ok n w') : ∃ u, n = .value u := by
  rw [Sem.run_bind] at h
  generalize s.run P w = r at h
  rcases r with ⟨x, w1⟩ | ⟨x, w1⟩
  · simp only [Result.andThen_ok, Sem.run_pure, Result.ok.injEq] at h
    exact ⟨x, h.1.symm⟩
  · cases h
theorem pick_only {s : Sem Bool} {x y : Value} {w w' : World} {n : Next} (h : (do pure (Next.value (if (← s) then x else y)) : Sem Next).run P w = .ok n w') : ∃ u, n = .value u := by
  rw [Sem.run_bind] at h
  generalize s.run P w = r at h
  rcases r with ⟨b, w1⟩ | ⟨b, w1⟩
  · simp only [Result.andThen_ok, Sem.run_pure, Result.ok.injEq] at h
    exact ⟨_, h.1.symm⟩
  · cases h
theorem valOp_value {o : Oper} (ho : valOp o.op = true) {ρ : Operand → Value} {w w' : World} {n : Next} (h : (execOp ρ o).run P w = .ok n w') : ∃ u, n = .value u := by
  obtain ⟨dst, op, type, pos, after, guard⟩ := o
  cases op <;> first | (cases ho; done) | exact value_only h | exact pick_only h | (simp only [execOp, Sem.run_pure, Result.ok.injEq] at h; exact ⟨_, h.1.symm⟩)
theorem yieldsC_of {o : Oper} (ho : valOp o.op = true) {a : Act} {v : Value} (hw : Region.wanted o (yielded ops a.tmps) = true) (h : ∀ w, C w → o.quietAt P a C w v) : YieldsC P ops C o v a := by
  refine .inl ⟨hw, fun w hC => ?_⟩
  have h1 := h w hC
  unfold Oper.quietAt at h1
  generalize hr : (execOp a.eval o).run P w = r at h1 ⊢
  rcases r with ⟨n, w'⟩ | ⟨x, w'⟩
  · obtain ⟨u, rfl⟩ := valOp_value ho hr
    obtain ⟨rfl, rfl⟩ := h1
    rfl
  · cases h1
def headsB (md : Region.Mode) (ops : Array Oper) : List Nat → Array Bool → Bool
  | [], _ => true
  | k :: ks, listed => (Region.ready md ops listed).contains k && (Region.free md ops listed k && ((match ops[k]? with | some o => valOp o.op | none => false) && headsB md ops ks (listed.setIfInBounds k true)))
def headsL : List Nat → Array Bool → Array Bool
  | [], listed => listed
  | k :: ks, listed => headsL ks (listed.setIfInBounds k true)
def headOps (ops : Array Oper) (ks : List Nat) : List Oper := ks.filterMap fun k => ops[k]?
theorem anyC_heads (hs : Region.noSelect ops = true) (n : Nat) (w : World) (hC : C w) : ∀ (ks : List Nat) (listed : Array Bool) (a : Act),
    headsB md ops ks listed = true → wpQuiet P ops C (fun a' => anyC P md ops N C n (headsL ks listed) a' w) (headOps ops ks) a → anyC P md ops N C (n + ks.length) listed a w
  | [], _, _, _, h => h
  | k :: ks, listed, a, hB, h => by
    cases h0 : ops[k]? with
    | none => simp [headsB, h0] at hB
    | some o =>
    simp only [headsB, Bool.and_eq_true, h0] at hB
    obtain ⟨hr, hf, hv, hB⟩ := hB
    rw [headOps, List.filterMap_cons, h0] at h
    unfold wpQuiet at h
    by_cases hw : Region.wanted o (yielded ops a.tmps) = true
    · rw [if_pos hw] at h
      obtain ⟨v, h1, h2⟩ := h
      exact anyC_first h0 (Region.noSelect_spec hs) (n + ks.length) listed a w (Region.free_spec h0 hf) (by simpa using hr) (yieldsC_of hv hw h1) (anyC_heads hs n w hC ks _ _ hB h2)
    · rw [if_neg hw] at h
      exact anyC_first h0 (Region.noSelect_spec hs) (n + ks.length) listed a w (Region.free_spec h0 hf) (by simpa using hr) (.inr ⟨by simpa using hw, rfl⟩) (anyC_heads hs n w hC ks _ _ hB h)
theorem anyC_step {n i : Nat} {o : Oper} {listed : Array Bool} {a : Act} {w : World} (hr : Region.ready md ops listed = [i]) (hi : ops[i]? = some o) (hw : Region.wanted o (yielded ops a.tmps) = true) (hC : C w)
    (h : ∀ K : Act → World → Prop, (∀ a' w', anyC P md ops N C n (listed.setIfInBounds i true) a' w' → K a' w') → Oper.wp P o a w K (Nrm N)) : anyC P md ops N C (n + 1) listed a w := by
  refine ⟨hC, fun h0 => (by rw [h0] at hr; cases hr), fun j hj => ?_⟩
  rw [hr] at hj
  obtain rfl : j = i := by simpa using hj
  unfold wpOp
  simp only [hi, hw, if_true]
  exact .inl (h _ fun _ _ hk => hk)
theorem anyC_call {n i : Nat} {o : Oper} {f : FuncId} {args : Array Value} {listed : Array Bool} {a : Act} {w : World} (hr : Region.ready md ops listed = [i]) (hi : ops[i]? = some o) (hw : Region.wanted o (yielded ops a.tmps) = true) (hC : C w)
    (hrun : (execOp a.eval o).run P w = .ok (.enter f args) w) (h : Calls P f args w fun e w' => ∃ v, e = .returned v ∧ anyC P md ops N C n (listed.setIfInBounds i true) (a.put o.dst v) w') : anyC P md ops N C (n + 1) listed a w :=
  anyC_step hr hi hw hC fun K hK => by
    unfold Oper.wp
    rw [hrun]
    exact Calls.mono h fun e w' ⟨v, he, hk⟩ => by subst he; exact hK _ _ hk
theorem anyC_val {n i : Nat} {o : Oper} {v : Value} {listed : Array Bool} {a : Act} {w w' : World} (hr : Region.ready md ops listed = [i]) (hi : ops[i]? = some o) (hw : Region.wanted o (yielded ops a.tmps) = true) (hC : C w)
    (hrun : (execOp a.eval o).run P w = .ok (.value v) w') (h : anyC P md ops N C n (listed.setIfInBounds i true) (a.put o.dst v) w') : anyC P md ops N C (n + 1) listed a w :=
  anyC_step hr hi hw hC fun K hK => by
    unfold Oper.wp
    rw [hrun]
    exact hK _ _ h
theorem anyC_done {listed : Array Bool} {a : Act} {w : World} (hr : Region.ready md ops listed = []) (hC : C w) (h : N a w) : anyC P md ops N C 0 listed a w := ⟨hC, hr, h⟩
end
theorem wp_region_heads {P : Program} {N : Act → World → Prop} {C : World → Prop} {Q : Exit → Act → World → Prop} {id : Nat} {a : Act} {w : World} {l : List Oper} (ks : List Nat) (hm : P.follows .mixedOrders = true)
    (hB : (Region.noSelect l.toArray && (decide (ks.length ≤ l.length) && headsB .any l.toArray ks (Array.replicate l.length false))) = true) (hC : C w.drew) (hN : ∀ a w, N a w → Q .normal a w)
    (h : wpQuiet P l.toArray C (fun a' => anyC P .any l.toArray N C (l.length - ks.length) (headsL ks (Array.replicate l.length false)) a' w.drew) (headOps l.toArray ks) a) : (Code.region id l.toArray true).wp P Q a w := by
  simp only [Bool.and_eq_true, decide_eq_true_eq] at hB
  obtain ⟨hs, hn, hB⟩ := hB
  refine wp_region_any hm (anyC_any (C := C) hN ?_)
  have := anyC_heads (P := P) (md := .any) (N := N) hs (l.length - ks.length) w.drew hC ks (Array.replicate l.length false) a hB h
  rw [show l.length - ks.length + ks.length = l.length by omega] at this
  rw [List.size_toArray]
  exact this
end Go.Proofs.Ythlidhfahaalgaa
