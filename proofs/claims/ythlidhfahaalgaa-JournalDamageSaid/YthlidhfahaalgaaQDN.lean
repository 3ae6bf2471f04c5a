/-
  math/bits.Mul64 and Mul (after the shelf's own proof), slices.Repeat of one element. No condition.
-/
import Derived.Lib.Mul64
import Derived.Laws.Bits64b
import Derived.Test.YthlidhfahaalgaaQDM
namespace Go.Proofs.Ythlidhfahaalgaa
open Go.RowKit
attribute [local go_sem ↓ high] app_named cop_named

namespace Mul64
theorem maskN (a : Nat) (ha : a < 18446744073709551616) : bits .and .u64 (a : Int) 4294967295 = ((a % 4294967296 : Nat) : Int) := by
  have h := bits_and_u64_nat a 4294967295 ha (by omega)
  have e : a &&& 4294967295 = a % 4294967296 := Nat.and_two_pow_sub_one_eq_mod a 32
  rw [e] at h
  exact h
theorem divN (a : Nat) : (a : Int) / 4294967296 = ((a / 4294967296 : Nat) : Int) := by omega
theorem mulN (a b : Nat) : (a : Int) * (b : Int) = ((a * b : Nat) : Int) := (Int.natCast_mul a b).symm
theorem addN (a b : Nat) : (a : Int) + (b : Int) = ((a + b : Nat) : Int) := (Int.natCast_add a b).symm
theorem wrapN (a : Nat) (ha : a < 18446744073709551616) : IntKind.u64.wrap (a : Int) = (a : Int) := by rw [IntKind.wrap_u64]; omega
theorem wrapM (a : Nat) : IntKind.u64.wrap (a : Int) = ((a % 18446744073709551616 : Nat) : Int) := by rw [IntKind.wrap_u64]; omega
end Mul64

set_option maxHeartbeats 1000000 in
theorem Mul64_any (x y : Nat) (hx : x < 18446744073709551616) (hy : y < 18446744073709551616) (w : World) :
    Calls Try.prog 74 #[.int .u64 x, .int .u64 y] w fun e w' => e = .returned (.tuple #[.int .u64 ((x * y / 18446744073709551616 : Nat) : Int), .int .u64 ((x * y % 18446744073709551616 : Nat) : Int)]) ∧ w' = w := by
  obtain ⟨bd, bt, bw, hhi⟩ := Lib.mul64_hi x y hx hy
  have ba := Lib.half_mul_le (a := x / 4294967296) (b := y / 4294967296) (by omega) (by omega)
  have bb := Lib.half_mul_le (a := x / 4294967296) (b := y % 4294967296) (by omega) (by omega)
  have bc := Lib.half_mul_le (a := x % 4294967296) (b := y / 4294967296) (by omega) (by omega)
  have ba' : x / 4294967296 * (y / 4294967296) < 18446744073709551616 := by omega
  have bb' : x / 4294967296 * (y % 4294967296) < 18446744073709551616 := by omega
  have bc' : x % 4294967296 * (y / 4294967296) < 18446744073709551616 := by omega
  have bh1 : x / 4294967296 * (y / 4294967296) + (x / 4294967296 * (y % 4294967296) + x % 4294967296 * (y % 4294967296) / 4294967296) / 4294967296 < 18446744073709551616 := by omega
  have bh : x / 4294967296 * (y / 4294967296) + (x / 4294967296 * (y % 4294967296) + x % 4294967296 * (y % 4294967296) / 4294967296) / 4294967296 + ((x / 4294967296 * (y % 4294967296) + x % 4294967296 * (y % 4294967296) / 4294967296) % 4294967296 + x % 4294967296 * (y / 4294967296)) / 4294967296 < 18446744073709551616 := by omega
  go_enter Try.func74, Try.ntmps74
  go_wp2
  simp only [Mul64.maskN x hx, Mul64.maskN y hy, Mul64.divN, Mul64.mulN, Mul64.addN, Mul64.wrapN _ bd, Mul64.wrapN _ bb', Mul64.wrapN _ bt, Mul64.maskN _ bt, Mul64.wrapN _ bc', Mul64.wrapN _ bw, Mul64.wrapN _ ba', Mul64.wrapN _ bh1, Mul64.wrapN _ bh, Mul64.wrapM (x * y)]
  rw [hhi]
  go_ret2
  exact ⟨rfl, rfl⟩


theorem dMul_one (k : Nat) (hk : k ≤ 4096) (w : World) : Calls Try.prog 68 #[.int .u64 1, .int .u64 k] w fun e w' => e = .returned (.tuple #[.int .u64 0, .int .u64 k]) ∧ w = w' := by
  have H := Lib.hid (fun w => Mul64_any 1 k (by decide) (by omega) w)
  have e1 : 1 * k / 18446744073709551616 = 0 := by omega
  have e2 : 1 * k % 18446744073709551616 = k := by omega
  have H2 : Hid (∀ w, Calls Try.prog 74 #[.int .u64 1, .int .u64 k] w fun e w' => e = .returned (.tuple #[.int .u64 0, .int .u64 k]) ∧ w = w') := fun w => (H.out w).mono fun _ _ ⟨he, hw⟩ => ⟨by rw [he, e1, e2]; rfl, hw.symm⟩
  clear H e1 e2
  go_enter Try.func68, Try.ntmps68
  go_wp2_with (go_at_call 74; refine (H2.out _).mono ?_; rintro e w' ⟨rfl, rfl⟩)
  go_ret2
  exact ⟨rfl, rfl⟩
set_option maxRecDepth 100000 in
/-- A row filled by copying its head behind itself. -/
theorem run_fill {w : World} {base g k n : Nat} {U Z : Value} (ty : TypeId) (ho : w.ownsRow base 35 1 (.slice (some ⟨g, 0, none⟩) k k) k (List.replicate n U ++ List.replicate (k - n) Z)) (hn : n < k) (hU : U.oneCell' = true) :
    ∃ w', (copF #[22, 22] ty #[.slice (some ⟨g, n, none⟩) (k - n) (k - n), .slice (some ⟨g, 0, none⟩) n k]).run Try.prog w = .ok (goInt (Nat.min n (k - n))) w' ∧
      w'.ownsRow base 35 1 (.slice (some ⟨g, 0, none⟩) k k) k (List.replicate (n + Nat.min n (k - n)) U ++ List.replicate (k - (n + Nat.min n (k - n))) Z) ∧ w.grownBy w' (some g) := by
  obtain ⟨i, E⟩ := elem_rw
  have hu := E.ht
  have hs : (Try.prog.info? 35).map (·.size) = some 1 := by rw [E.hi]; simp [E.hsize]
  obtain ⟨m, hm⟩ : ∃ m, Nat.min n (k - n) = m := ⟨_, rfl⟩
  have hmn : m ≤ n := by rw [← hm]; exact Nat.min_le_left _ _
  have hmk : m ≤ k - n := by rw [← hm]; exact Nat.min_le_right _ _
  rw [hm]
  have hcell := (own_cell ho).2.2.1
  obtain ⟨hl, ho'⟩ := ho
  rcases ho' with ⟨h1, _⟩ | ⟨g', cap, cur, hv, hb, hg, hc, hcm, hsz, hx⟩
  · cases h1
  · cases hv
    have hrun := run_copy_row (P := Try.prog) w 22 22 ty 35 g n (k - n) (k - n) ⟨g, 0, none⟩ n k cur 35 (List.replicate m U) hu hs hg (by rw [List.length_replicate, hm]) (fun j v hj => by
      rw [List.getElem?_replicate] at hj
      split at hj
      · rename_i hjm
        cases hj
        rw [add_at, Nat.zero_add, hcell j (by omega), List.getElem?_append_left (by rw [List.length_replicate]; omega), List.getElem?_replicate, if_pos (by omega)]
      · cases hj) (by rw [List.length_replicate, hsz]; omega) (fun v hv => by rw [List.eq_of_mem_replicate hv]; exact hU)
    rw [List.length_replicate] at hrun
    refine ⟨_, hrun, ⟨by simp; omega, .inr ⟨g, k, _, rfl, hb, setRow_heap w g _ _ _ _ hg, hc, hcm, by simp [hsz]; omega, ?_⟩⟩, ⟨rfl, rfl, rfl, by simp [World.setRow], fun b _ hne => setRow_other w g b _ (fun e => hne (by rw [e]))⟩⟩
    have hcur : cur.toList = List.replicate n U ++ List.replicate (k - n) Z := by
      rw [← hx, Nat.mul_one, List.take_of_length_le (by rw [Array.length_toList, hsz]; omega)]
    rw [hcur]
    have e1 : (List.replicate n U ++ List.replicate (k - n) Z).take n = List.replicate n U := by
      rw [List.take_append_of_le_length (by simp), List.take_of_length_le (by simp)]
    have e2 : (List.replicate n U ++ List.replicate (k - n) Z).drop (n + m) = List.replicate (k - (n + m)) Z := by
      rw [List.drop_append, List.drop_eq_nil_of_le (by simp), List.length_replicate, List.drop_replicate, List.nil_append]
      congr 1
      omega
    rw [e1, e2, Nat.mul_one, List.replicate_append_replicate]
    show List.take k (List.replicate (n + m) U ++ List.replicate (k - (n + m)) Z) = _
    rw [List.take_of_length_le (by simp; omega)]

/-- A slice of k equal byte slices. -/
def RetRep (k : Nat) (U : Value) (w : World) (e : Ending) (w' : World) : Prop := ∃ g, e = .returned (.slice (some ⟨g, 0, none⟩) k k) ∧ w'.ownsRow w.heap.size 35 1 (.slice (some ⟨g, 0, none⟩) k k) k (List.replicate k U) ∧ Below w.heap.size w w'
theorem made_nils (n : Nat) : List.replicate n (Value.slice none 0 0) = (madeCells (Value.slice none 0 0).cells (n * 1)).toList := by
  rw [madeCells]
  apply List.ext_getElem?
  intro i
  rcases Nat.lt_or_ge i n with hi | hi
  · simp [hi, Value.cells, Nat.mod_one]
  · simp [hi]
set_option maxRecDepth 100000 in
theorem make_rows (k : Nat) (hk : k ≤ 4096) (w : World) : ∃ w', (Instr.makeSlice 22 (.int .i64 k) (.int .i64 k)).run Try.prog w = .ok (.slice (some ⟨w.heap.size, 0, none⟩) k k) w' ∧ w'.ownsRow w.heap.size 35 1 (.slice (some ⟨w.heap.size, 0, none⟩) k k) k (List.replicate k (.slice none 0 0)) ∧ Below w.heap.size w w' := by
  obtain ⟨i, E⟩ := elem_rw
  obtain ⟨w', hr, ho, hg⟩ := run_makeSlice_full (P := Try.prog) w w.heap.size 22 35 i (.slice none 0 0) 1 E.ht E.hi E.hz E.hsize .i64 .i64 k (by omega) (by rw [E.hby]; omega) (by simp only [maxLen]; omega) (Nat.le_refl _)
  refine ⟨w', hr, ?_, (Below.refl _ _).grown hg (Nat.le_refl _) (fun k hk => by cases hk)⟩
  rw [made_nils]
  exact ho
set_option maxRecDepth 100000 in
set_option maxHeartbeats 4000000 in
theorem dRepeat_any (b k : Nat) (Au : Option Addr) (nu cu : Nat) (w : World) (hk1 : 1 ≤ k) (hk : k ≤ 4096) (hc : w.cell? ⟨b, 0, none⟩ = some (.slice Au nu cu)) (hb : b < w.heap.size) :
    Calls Try.prog 49 #[.slice (some ⟨b, 0, none⟩) 1 1, .int .i64 k] w (RetRep k (.slice Au nu cu) w) := by
  obtain ⟨w1, hmk, ho1, hb1⟩ := make_rows k hk w
  obtain ⟨i, E⟩ := elem_rw
  have hs1 : Sl w1 w1.heap.size 1 1 (fun _ _ => .slice Au nu cu) (.slice (some ⟨b, 0, none⟩) 1 1) := by
    refine ⟨_, _, rfl, by simp [maxLen], fun i hi => ⟨b, 0, rfl, Nat.lt_of_lt_of_le hb hb1.size, fun j hj => ?_⟩⟩
    obtain rfl : i = 0 := by omega
    obtain rfl : j = 0 := by omega
    exact (hb1.cell hb).trans hc
  obtain ⟨w2, hcp0, ho2, hg2⟩ := own_copy E 3 ho1 (Nat.le_refl k) hs1 (fun _ _ => rfl) (dc := k)
  have hm1 : Nat.min 1 k = 1 := Nat.min_eq_left hk1
  rw [hm1] at hcp0 ho2
  have hcp : (copF #[22, 22] 3 #[.slice (some ⟨w.heap.size, 0, none⟩) k k, .slice (some ⟨b, 0, none⟩) 1 1]).run Try.prog w1 = .ok (.int .i64 1) w2 := hcp0
  have ho2' : w2.ownsRow w.heap.size 35 1 (.slice (some ⟨w.heap.size, 0, none⟩) k k) k (List.replicate 1 (.slice Au nu cu) ++ List.replicate (k - 1) (.slice none 0 0)) := by
    rw [List.drop_replicate] at ho2
    exact ho2
  have hb2 : Below w.heap.size w w2 := hb1.grown hg2 hb1.size (fun k hk => by cases hk; exact Nat.le_refl _)
  have HO2 := Lib.hid ho2'
  have HM := Lib.hid (fun w => dMul_one k hk w)
  clear hcp0 ho1 ho2 ho2' hg2 hs1 hm1 hb1 hc
  go_enter Try.func49, Try.ntmps49
  go_wp2_with (go_at_call 68; refine (HM.out _).mono ?_; rintro e w' ⟨rfl, rfl⟩)
  clear hmk hcp
  obtain ⟨g, hg⟩ : ∃ g, w.heap.size = g := ⟨_, rfl⟩
  rw [hg] at HO2 hb2 ⊢
  have HG := Lib.hid hg
  clear hg HM E hb
  go_loopw [8] (fun i wr => ∃ n : Nat, 1 ≤ n ∧ n ≤ k ∧ i = .int .i64 n ∧ Hid (wr.ownsRow g 35 1 (.slice (some ⟨g, 0, none⟩) k k) k (List.replicate n (.slice Au nu cu) ++ List.replicate (k - n) (.slice none 0 0))) ∧ Below g w wr) (fun i _ => k - (intOf i).toNat)
  case atStart => exact ⟨1, by omega, hk1, rfl, HO2, hb2⟩
  case round =>
    clear HO2 hb2
    obtain ⟨n, hn1, hnk, rfl, ho, hb⟩ := hrel
    by_cases hlt : n < k
    · obtain ⟨w3, hr0, ho3, hg3⟩ := run_fill (w := wr.drew) 3 ho.out hlt rfl
      have hmz : Nat.min n (k - n) = (if n ≤ k - n then n else k - n) := rfl
      obtain ⟨m, hm⟩ : ∃ m, Nat.min n (k - n) = m := ⟨_, rfl⟩
      have hm1 : 1 ≤ m ∧ n + m ≤ k := by
        rw [← hm]
        have := Nat.min_le_right n (k - n)
        have h2 : 1 ≤ Nat.min n (k - n) := Nat.le_min.2 ⟨hn1, by omega⟩
        have h3 : Nat.min n (k - n) ≤ k - n := Nat.min_le_right n (k - n)
        omega
      rw [hm] at hr0 ho3
      have hr : (copF #[22, 22] 3 #[.slice (some ⟨g, n, none⟩) (k - n) (k - n), .slice (some ⟨g, 0, none⟩) n k]).run Try.prog wr.drew = .ok (.int .i64 m) w3 := hr0
      have hb3 : Below g w w3 := hb.drew.grown hg3 (Nat.le_trans (Nat.le_of_eq HG.out.symm) hb.size) (fun k hk => by cases hk; exact Nat.le_refl _)
      have HO3 := Lib.hid ho3
      obtain ⟨hm2, hm3⟩ := hm1
      have i0 : (0 : Int) ≤ (n : Int) := by omega
      have i1 : (n : Int) ≤ (k : Int) := by omega
      have i2 : (n : Int) < (k : Int) := by omega
      clear hr0 ho3 hg3 hmz hm ho hb
      go_wp2_with fail
      go_region
      go_wp2
      refine ⟨⟨n + m, by omega, hm3, by go_num, HO3, hb3⟩, by simp [intOf]; omega⟩
    · obtain rfl : k = n := by omega
      have HR : Hid (RetRep k (.slice Au nu cu) w (.returned (.slice (some ⟨g, 0, none⟩) k k)) wr) := ⟨g, rfl, by
        have := ho.out
        rw [Nat.sub_self, List.replicate_zero, List.append_nil] at this
        rw [HG.out]
        exact this, by rw [HG.out]; exact hb⟩
      go_wp2
      go_ret
      exact HR.out

end Go.Proofs.Ythlidhfahaalgaa

/-
  Contracts of New of disk and of its reference. (Printed by gen_do.py.)
-/
namespace Go.Proofs.Ythlidhfahaalgaa
open Go.RowKit
attribute [local go_sem ↓ high] app_named cop_named

theorem rep_rows {w : World} {base k : Nat} {S : Nat → Prop} {U v : Value} {x : Bs} (ho : w.ownsRow base 35 1 v k (List.replicate k U)) (hU : BsAt w S U x) : OwnRw w base S v (List.replicate k x) := by
  refine ⟨List.replicate k U, by rw [List.length_replicate]; exact ho, fun i y u hy hu => ?_⟩
  rw [List.getElem?_replicate] at hy hu
  split at hy
  · rename_i h
    rw [if_pos h] at hu
    cases hy
    cases hu
    exact hU
  · cases hy
theorem dNew_1 (k : Int) (hk : k < 1) (S : Nat → Prop) (w : World) (hs : Hid (newT k = (Dk.zero, 1))) : Calls Try.prog 25 #[.int .i64 k] w (RetDk (newT k) S w) := by
  have hB : Below w.heap.size w (w.alloc (.cells #[.slice none 0 0, .slice none 0 0, .int .i64 0, .bool false] 25)) := ((Below.refl w.heap.size w).alloc (by simp <;> omega) (.cells #[.slice none 0 0, .slice none 0 0, .int .i64 0, .bool false] 25))
  go_enter Try.func25, Try.ntmps25
  go_wp2
  refine bodyPost_ret (v := .tuple #[.agg #[.slice none 0 0, .slice none 0 0, .int .i64 0, .bool false], .int .i64 1]) (by simp [results, Try.results25, go_sem]) rfl ?_
  exact ⟨_, _, Dk.zero, 1, rfl, hs, dkAt_zero _ _, hB⟩

theorem dNew_2 (k : Int) (hk1 : 1 ≤ k) (hk : 4096 < k) (S : Nat → Prop) (w : World) (hs : Hid (newT k = (Dk.zero, 1))) : Calls Try.prog 25 #[.int .i64 k] w (RetDk (newT k) S w) := by
  have hB : Below w.heap.size w (w.alloc (.cells #[.slice none 0 0, .slice none 0 0, .int .i64 0, .bool false] 25)) := ((Below.refl w.heap.size w).alloc (by simp <;> omega) (.cells #[.slice none 0 0, .slice none 0 0, .int .i64 0, .bool false] 25))
  go_enter Try.func25, Try.ntmps25
  go_wp2
  refine bodyPost_ret (v := .tuple #[.agg #[.slice none 0 0, .slice none 0 0, .int .i64 0, .bool false], .int .i64 1]) (by simp [results, Try.results25, go_sem]) rfl ?_
  exact ⟨_, _, Dk.zero, 1, rfl, hs, dkAt_zero _ _, hB⟩

set_option maxRecDepth 100000 in
set_option maxHeartbeats 4000000 in
theorem dNew_3 (k : Nat) (hk1 : 1 ≤ k) (hk : k ≤ 4096) (S : Nat → Prop) (w : World) (hs : Hid (newT k = (⟨List.replicate k zeros, [], -1, false⟩, 0))) : Calls Try.prog 25 #[.int .i64 k] w (RetDk (newT k) S w) := by
  have hB1 := (Below.refl w.heap.size w).alloc (Nat.le_refl _) (.cells #[.slice none 0 0, .slice none 0 0, .int .i64 0, .bool false] 25)
  have R1 := Box.new w [.slice none 0 0, .slice none 0 0, .int .i64 0, .bool false] 25
  obtain ⟨w2, hmk0, hz2, hb2⟩ := make_bs (w.alloc (.cells #[.slice none 0 0, .slice none 0 0, .int .i64 0, .bool false] 25))
  obtain ⟨z, hz⟩ : ∃ z, (w.alloc (.cells #[.slice none 0 0, .slice none 0 0, .int .i64 0, .bool false] 25)).heap.size = z := ⟨_, rfl⟩
  have hzw : z = w.heap.size + 1 := by rw [← hz]; simp
  rw [hz] at hmk0 hz2
  subst hzw
  have hmk : (Instr.makeSlice 35 (.int .i64 128) (.int .i64 128)).run Try.prog (w.alloc (.cells #[.slice none 0 0, .slice none 0 0, .int .i64 0, .bool false] 25)) = .ok (.slice (some ⟨w.heap.size + 1, 0, none⟩) 128 128) w2 := hmk0
  have R2 := R1.later hb2
  have hB2 := hB1.trans (hb2.mono hB1.size)
  have hZ2 : BsAt w2 (fun b => w.heap.size + 1 ≤ b) (.slice (some ⟨w.heap.size + 1, 0, none⟩) 128 128) zeros := hz2.bs (by rw [zeros_length]; simp [maxLen])
  have HZ2 := Lib.hid hZ2
  have HMK := Lib.hid hmk
  have hb3 := (Below.refl w2.heap.size w2).alloc (Nat.le_refl _) (.cells #[.slice (some ⟨w.heap.size + 1, 0, none⟩) 128 128] 35)
  have Y3 := Box.new w2 [.slice (some ⟨w.heap.size + 1, 0, none⟩) 128 128] 35
  have C := Lib.hid (dRepeat_any w2.heap.size k (some ⟨w.heap.size + 1, 0, none⟩) 128 128 _ hk1 hk (Y3.cell 0) Y3.lt)
  have hk2 : (1 : Int) ≤ (k : Int) := by omega
  have hk3 : (k : Int) ≤ 4096 := by omega
  have R3 := R2.later hb3
  have hB3 := hB2.trans (hb3.mono hB2.size)
  have hZ3 := Lib.hid (HZ2.out.keep (Keeps.of hb3))
  clear hz hmk0 hz2 hb2 hZ2 R1 hB1 R2 hB2 hb3 Y3 HZ2 HMK
  go_enter Try.func25, Try.ntmps25
  go_wp2_with fail
  refine C.out.mono ?_
  rintro e w4 ⟨g, rfl, ho, hb⟩
  have R4 := R3.later hb
  have hB4 := hB3.trans (hb.mono hB3.size)
  have hO4 := rep_rows ho (hZ3.out.keep (Keeps.of hb))
  have hs3 : w.heap.size < (w2.alloc (.cells #[.slice (some ⟨w.heap.size + 1, 0, none⟩) 128 128] 35)).heap.size := R3.lt
  obtain ⟨bs, hbs⟩ : ∃ bs, (w2.alloc (.cells #[.slice (some ⟨w.heap.size + 1, 0, none⟩) 128 128] 35)).heap.size = bs := ⟨_, rfl⟩
  rw [hbs] at hO4 hs3
  have HO4 := Lib.hid hO4
  clear ho hb hO4 R3 hB3 hZ3 C hbs
  have r0 : w4.cell? ⟨w.heap.size, 0, none⟩ = some (.slice none 0 0) := R4.cell 0
  have r1 : w4.cell? ⟨w.heap.size, 1, none⟩ = some (.slice none 0 0) := R4.cell 1
  have r2 : w4.cell? ⟨w.heap.size, 2, none⟩ = some (.int .i64 0) := R4.cell 2
  have r3 : w4.cell? ⟨w.heap.size, 3, none⟩ = some (.bool false) := R4.cell 3
  have rf0 := R4.free 0
  have rf1 := R4.free 1
  have rf2 := R4.free 2
  have rf3 := R4.free 3
  have rz : w.heap.size < w4.heap.size := R4.lt
  go_wp2
  have nK : ∀ W : World, ¬ (Old (fun b => w.heap.size + 1 ≤ b ∨ bs ≤ b) W) (w.heap.size) := by
    intro W h
    rcases h.1 with h | h <;> omega
  have ZR := ((((R4.set 0 (.slice (some ⟨g, 0, none⟩) k k)).set 1 (.slice none 0 0)).set 2 (.int .i64 (-1))).set 3 (.bool false))
  have HB := ((((hB4.setCell (p := ⟨w.heap.size, 0, none⟩) (Nat.le_refl _) (.slice (some ⟨g, 0, none⟩) k k)).setCell (p := ⟨w.heap.size, 1, none⟩) (Nat.le_refl _) (.slice none 0 0)).setCell (p := ⟨w.heap.size, 2, none⟩) (Nat.le_refl _) (.int .i64 (-1))).setCell (p := ⟨w.heap.size, 3, none⟩) (Nat.le_refl _) (.bool false))
  have hO9 := HO4.out.keepK (w' := ((((w4.setCell ⟨w.heap.size, 0, none⟩ (.slice (some ⟨g, 0, none⟩) k k)).setCell ⟨w.heap.size, 1, none⟩ (.slice none 0 0)).setCell ⟨w.heap.size, 2, none⟩ (.int .i64 (-1))).setCell ⟨w.heap.size, 3, none⟩ (.bool false))) (Keeps.trans (Keeps.trans (Keeps.trans (Keeps.set _ (nK _) _) (Keeps.set _ (nK _) _)) (Keeps.set _ (nK _) _)) (Keeps.set _ (nK _) _))
  clear r0 r1 r2 r3 rf0 rf1 rf2 rf3 rz
  generalize ((((w4.setCell ⟨w.heap.size, 0, none⟩ (.slice (some ⟨g, 0, none⟩) k k)).setCell ⟨w.heap.size, 1, none⟩ (.slice none 0 0)).setCell ⟨w.heap.size, 2, none⟩ (.int .i64 (-1))).setCell ⟨w.heap.size, 3, none⟩ (.bool false)) = W at ZR HB hO9 ⊢
  have z0 : W.cell? ⟨w.heap.size, 0, none⟩ = some (.slice (some ⟨g, 0, none⟩) k k) := ZR.cell 0
  have z1 : W.cell? ⟨w.heap.size, 1, none⟩ = some (.slice none 0 0) := ZR.cell 1
  have z2 : W.cell? ⟨w.heap.size, 2, none⟩ = some (.int .i64 (-1)) := ZR.cell 2
  have z3 : W.cell? ⟨w.heap.size, 3, none⟩ = some (.bool false) := ZR.cell 3
  refine bodyPost_ret (v := .tuple #[.agg #[.slice (some ⟨g, 0, none⟩) k k, .slice none 0 0, .int .i64 (-1), .bool false], .int .i64 0]) (by simp [results, Try.results25, go_sem, z0, z1, z2, z3]) rfl ?_
  refine ⟨_, _, _, 0, rfl, hs, Lib.hid ⟨?_, wsAt_nil _ _⟩, HB⟩
  exact hO9.rows (by rw [List.length_replicate]; simp only [maxLen]; omega) (fun b h _ => .inr (by omega)) (fun b h => .inr (by omega))

theorem dNew_any (k : Int) (S : Nat → Prop) (w : World) : Calls Try.prog 25 #[.int .i64 k] w (RetDk (newT k) S w) := by
  by_cases h1 : k < 1
  · exact dNew_1 k h1 S w (by rw [Hid, newT, if_neg (by omega)])
  · by_cases h2 : 4096 < k
    · exact dNew_2 k (by omega) h2 S w (by rw [Hid, newT, if_neg (by omega)])
    · obtain ⟨n, rfl⟩ : ∃ n : Nat, k = n := ⟨k.toNat, by omega⟩
      exact dNew_3 n (by omega) (by omega) S w (by rw [Hid, newT, if_pos (by omega)]; rfl)

end Go.Proofs.Ythlidhfahaalgaa
