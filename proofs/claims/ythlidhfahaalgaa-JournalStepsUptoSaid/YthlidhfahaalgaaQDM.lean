/- Contract of the reference's Check of chapter 4. No condition. -/
import Derived.Test.YthlidhfahaalgaaQDJ
import Derived.Lib.Mul64
import Derived.Laws.Bits64b
import Derived.Test.YthlidhfahaalgaaQK
import Derived.RangeFuncNested
import Derived.RangeFuncBound
import Derived.RangeFuncCalls
import Derived.RangeFuncLeaves
import Derived.RangeFuncBox
import Derived.Shelf.Abstract
import Derived.Shelf.RegionOpen
import Derived.OwnWalkIn
import Derived.TacticsInMore
import Derived.LoopNIn
import Derived.LoopIn
import Derived.Maps.AppendAt
import Derived.StillTailTactics
import Derived.Laws.BytesArg
set_option linter.unusedVariables false
set_option linter.unusedSimpArgs false
set_option maxRecDepth 100000
set_option maxHeartbeats 8000000
namespace Go.Proofs.Ythlidhfahaalgaa
open Go.RowKit
end Go.Proofs.Ythlidhfahaalgaa
namespace Go.Proofs.Ythlidhfahaalgaa
open Go.RowKit
attribute [local go_sem ↓ high] app_named cop_named
namespace Mul64
theorem maskN (a : Nat) (ha : a < 18446744073709551616) : bits .and .u64 (a : Int) 4294967295 = ((a % 4294967296 : Nat) : Int) := by
  have h := bits_and_u64_nat a 4294967295 ha (by omega)
  have e : a &&& 4294967295 = a % 4294967296 := Nat.and_two_pow_sub_one_eq_mod a 32
  rw [e] at h
  exact h
theorem divN (a : Nat) : (a : Int) / 4294967296 = ((a / 4294967296 : Nat) : Int) := by omega
theorem mulN (a b : Nat) : (a : Int) * (b : Int) = ((a * b : Nat) : Int) := (Int.natCast_mul a b).symm
theorem addN (a b : Nat) : (a : Int) + (b : Int) = ((a + b : Nat) : Int) := (Int.natCast_add a b).symm
theorem wrapN (a : Nat) (ha : a < 18446744073709551616) : IntKind.u64.wrap (a : Int) = (a : Int) := by rw [IntKind.wrap_u64]; omega
theorem wrapM (a : Nat) : IntKind.u64.wrap (a : Int) = ((a % 18446744073709551616 : Nat) : Int) := by rw [IntKind.wrap_u64]; omega
end Mul64
theorem Mul64_any (x y : Nat) (hx : x < 18446744073709551616) (hy : y < 18446744073709551616) (w : World) :
    Calls Try.prog 74 #[.int .u64 x, .int .u64 y] w fun e w' => e = .returned (.tuple #[.int .u64 ((x * y / 18446744073709551616 : Nat) : Int), .int .u64 ((x * y % 18446744073709551616 : Nat) : Int)]) ∧ w' = w := by
  obtain ⟨bd, bt, bw, hhi⟩ := Lib.mul64_hi x y hx hy
  have ba := Lib.half_mul_le (a := x / 4294967296) (b := y / 4294967296) (by omega) (by omega)
  have bb := Lib.half_mul_le (a := x / 4294967296) (b := y % 4294967296) (by omega) (by omega)
  have bc := Lib.half_mul_le (a := x % 4294967296) (b := y / 4294967296) (by omega) (by omega)
  have ba' : x / 4294967296 * (y / 4294967296) < 18446744073709551616 := by omega
  have bb' : x / 4294967296 * (y % 4294967296) < 18446744073709551616 := by omega
  have bc' : x % 4294967296 * (y / 4294967296) < 18446744073709551616 := by omega
  have bh1 : x / 4294967296 * (y / 4294967296) + (x / 4294967296 * (y % 4294967296) + x % 4294967296 * (y % 4294967296) / 4294967296) / 4294967296 < 18446744073709551616 := by omega
  have bh : x / 4294967296 * (y / 4294967296) + (x / 4294967296 * (y % 4294967296) + x % 4294967296 * (y % 4294967296) / 4294967296) / 4294967296 + ((x / 4294967296 * (y % 4294967296) + x % 4294967296 * (y % 4294967296) / 4294967296) % 4294967296 + x % 4294967296 * (y / 4294967296)) / 4294967296 < 18446744073709551616 := by omega
  go_enter Try.func74, Try.ntmps74
  go_wp2
  simp only [Mul64.maskN x hx, Mul64.maskN y hy, Mul64.divN, Mul64.mulN, Mul64.addN, Mul64.wrapN _ bd, Mul64.wrapN _ bb', Mul64.wrapN _ bt, Mul64.maskN _ bt, Mul64.wrapN _ bc', Mul64.wrapN _ bw, Mul64.wrapN _ ba', Mul64.wrapN _ bh1, Mul64.wrapN _ bh, Mul64.wrapM (x * y)]
  rw [hhi]
  go_ret2
  exact ⟨rfl, rfl⟩
theorem dMul_one (k : Nat) (hk : k ≤ 4096) (w : World) : Calls Try.prog 68 #[.int .u64 1, .int .u64 k] w fun e w' => e = .returned (.tuple #[.int .u64 0, .int .u64 k]) ∧ w = w' := by
  have H := Lib.hid (fun w => Mul64_any 1 k (by decide) (by omega) w)
  have e1 : 1 * k / 18446744073709551616 = 0 := by omega
  have e2 : 1 * k % 18446744073709551616 = k := by omega
  have H2 : Hid (∀ w, Calls Try.prog 74 #[.int .u64 1, .int .u64 k] w fun e w' => e = .returned (.tuple #[.int .u64 0, .int .u64 k]) ∧ w = w') := fun w => (H.out w).mono fun _ _ ⟨he, hw⟩ => ⟨by rw [he, e1, e2]; rfl, hw.symm⟩
  clear H e1 e2
  go_enter Try.func68, Try.ntmps68
  go_wp2_with (go_at_call 74; refine (H2.out _).mono ?_; rintro e w' ⟨rfl, rfl⟩)
  go_ret2
  exact ⟨rfl, rfl⟩
theorem run_fill {w : World} {base g k n : Nat} {U Z : Value} (ty : TypeId) (ho : w.ownsRow base 35 1 (.slice (some ⟨g, 0, none⟩) k k) k (List.replicate n U ++ List.replicate (k - n) Z)) (hn : n < k) (hU : U.oneCell' = true) :
    ∃ w', (copF #[22, 22] ty #[.slice (some ⟨g, n, none⟩) (k - n) (k - n), .slice (some ⟨g, 0, none⟩) n k]).run Try.prog w = .ok (goInt (Nat.min n (k - n))) w' ∧
      w'.ownsRow base 35 1 (.slice (some ⟨g, 0, none⟩) k k) k (List.replicate (n + Nat.min n (k - n)) U ++ List.replicate (k - (n + Nat.min n (k - n))) Z) ∧ w.grownBy w' (some g) := by
  obtain ⟨i, E⟩ := elem_rw
  have hu := E.ht
  have hs : (Try.prog.info? 35).map (·.size) = some 1 := by rw [E.hi]; simp [E.hsize]
  obtain ⟨m, hm⟩ : ∃ m, Nat.min n (k - n) = m := ⟨_, rfl⟩
  have hmn : m ≤ n := by rw [← hm]; exact Nat.min_le_left _ _
  have hmk : m ≤ k - n := by rw [← hm]; exact Nat.min_le_right _ _
  rw [hm]
  have hcell := (own_cell ho).2.2.1
  obtain ⟨hl, ho'⟩ := ho
  rcases ho' with ⟨h1, _⟩ | ⟨g', cap, cur, hv, hb, hg, hc, hcm, hsz, hx⟩
  · cases h1
  · cases hv
    have hrun := run_copy_row (P := Try.prog) w 22 22 ty 35 g n (k - n) (k - n) ⟨g, 0, none⟩ n k cur 35 (List.replicate m U) hu hs hg (by rw [List.length_replicate, hm]) (fun j v hj => by
      rw [List.getElem?_replicate] at hj
      split at hj
      · rename_i hjm
        cases hj
        rw [add_at, Nat.zero_add, hcell j (by omega), List.getElem?_append_left (by rw [List.length_replicate]; omega), List.getElem?_replicate, if_pos (by omega)]
      · cases hj) (by rw [List.length_replicate, hsz]; omega) (fun v hv => by rw [List.eq_of_mem_replicate hv]; exact hU)
    rw [List.length_replicate] at hrun
    refine ⟨_, hrun, ⟨by simp; omega, .inr ⟨g, k, _, rfl, hb, setRow_heap w g _ _ _ _ hg, hc, hcm, by simp [hsz]; omega, ?_⟩⟩, ⟨rfl, rfl, rfl, by simp [World.setRow], fun b _ hne => setRow_other w g b _ (fun e => hne (by rw [e]))⟩⟩
    have hcur : cur.toList = List.replicate n U ++ List.replicate (k - n) Z := by
      rw [← hx, Nat.mul_one, List.take_of_length_le (by rw [Array.length_toList, hsz]; omega)]
    rw [hcur]
    have e1 : (List.replicate n U ++ List.replicate (k - n) Z).take n = List.replicate n U := by
      rw [List.take_append_of_le_length (by simp), List.take_of_length_le (by simp)]
    have e2 : (List.replicate n U ++ List.replicate (k - n) Z).drop (n + m) = List.replicate (k - (n + m)) Z := by
      rw [List.drop_append, List.drop_eq_nil_of_le (by simp), List.length_replicate, List.drop_replicate, List.nil_append]
      congr 1
      omega
    rw [e1, e2, Nat.mul_one, List.replicate_append_replicate]
    show List.take k (List.replicate (n + m) U ++ List.replicate (k - (n + m)) Z) = _
    rw [List.take_of_length_le (by simp; omega)]
def RetRep (k : Nat) (U : Value) (w : World) (e : Ending) (w' : World) : Prop := ∃ g, e = .returned (.slice (some ⟨g, 0, none⟩) k k) ∧ w'.ownsRow w.heap.size 35 1 (.slice (some ⟨g, 0, none⟩) k k) k (List.replicate k U) ∧ Below w.heap.size w w'
theorem made_nils (n : Nat) : List.replicate n (Value.slice none 0 0) = (madeCells (Value.slice none 0 0).cells (n * 1)).toList := by
  rw [madeCells]
  apply List.ext_getElem?
  intro i
  rcases Nat.lt_or_ge i n with hi | hi
  · simp [hi, Value.cells, Nat.mod_one]
  · simp [hi]
theorem make_rows (k : Nat) (hk : k ≤ 4096) (w : World) : ∃ w', (Instr.makeSlice 22 (.int .i64 k) (.int .i64 k)).run Try.prog w = .ok (.slice (some ⟨w.heap.size, 0, none⟩) k k) w' ∧ w'.ownsRow w.heap.size 35 1 (.slice (some ⟨w.heap.size, 0, none⟩) k k) k (List.replicate k (.slice none 0 0)) ∧ Below w.heap.size w w' := by
  obtain ⟨i, E⟩ := elem_rw
  obtain ⟨w', hr, ho, hg⟩ := run_makeSlice_full (P := Try.prog) w w.heap.size 22 35 i (.slice none 0 0) 1 E.ht E.hi E.hz E.hsize .i64 .i64 k (by omega) (by rw [E.hby]; omega) (by simp only [maxLen]; omega) (Nat.le_refl _)
  refine ⟨w', hr, ?_, (Below.refl _ _).grown hg (Nat.le_refl _) (fun k hk => by cases hk)⟩
  rw [made_nils]
  exact ho
theorem dRepeat_any (b k : Nat) (Au : Option Addr) (nu cu : Nat) (w : World) (hk1 : 1 ≤ k) (hk : k ≤ 4096) (hc : w.cell? ⟨b, 0, none⟩ = some (.slice Au nu cu)) (hb : b < w.heap.size) :
    Calls Try.prog 49 #[.slice (some ⟨b, 0, none⟩) 1 1, .int .i64 k] w (RetRep k (.slice Au nu cu) w) := by
  obtain ⟨w1, hmk, ho1, hb1⟩ := make_rows k hk w
  obtain ⟨i, E⟩ := elem_rw
  have hs1 : Sl w1 w1.heap.size 1 1 (fun _ _ => .slice Au nu cu) (.slice (some ⟨b, 0, none⟩) 1 1) := by
    refine ⟨_, _, rfl, by simp [maxLen], fun i hi => ⟨b, 0, rfl, Nat.lt_of_lt_of_le hb hb1.size, fun j hj => ?_⟩⟩
    obtain rfl : i = 0 := by omega
    obtain rfl : j = 0 := by omega
    exact (hb1.cell hb).trans hc
  obtain ⟨w2, hcp0, ho2, hg2⟩ := own_copy E 3 ho1 (Nat.le_refl k) hs1 (fun _ _ => rfl) (dc := k)
  have hm1 : Nat.min 1 k = 1 := Nat.min_eq_left hk1
  rw [hm1] at hcp0 ho2
  have hcp : (copF #[22, 22] 3 #[.slice (some ⟨w.heap.size, 0, none⟩) k k, .slice (some ⟨b, 0, none⟩) 1 1]).run Try.prog w1 = .ok (.int .i64 1) w2 := hcp0
  have ho2' : w2.ownsRow w.heap.size 35 1 (.slice (some ⟨w.heap.size, 0, none⟩) k k) k (List.replicate 1 (.slice Au nu cu) ++ List.replicate (k - 1) (.slice none 0 0)) := by
    rw [List.drop_replicate] at ho2
    exact ho2
  have hb2 : Below w.heap.size w w2 := hb1.grown hg2 hb1.size (fun k hk => by cases hk; exact Nat.le_refl _)
  have HO2 := Lib.hid ho2'
  have HM := Lib.hid (fun w => dMul_one k hk w)
  clear hcp0 ho1 ho2 ho2' hg2 hs1 hm1 hb1 hc
  go_enter Try.func49, Try.ntmps49
  go_wp2_with (go_at_call 68; refine (HM.out _).mono ?_; rintro e w' ⟨rfl, rfl⟩)
  clear hmk hcp
  obtain ⟨g, hg⟩ : ∃ g, w.heap.size = g := ⟨_, rfl⟩
  rw [hg] at HO2 hb2 ⊢
  have HG := Lib.hid hg
  clear hg HM E hb
  go_loopw [8] (fun i wr => ∃ n : Nat, 1 ≤ n ∧ n ≤ k ∧ i = .int .i64 n ∧ Hid (wr.ownsRow g 35 1 (.slice (some ⟨g, 0, none⟩) k k) k (List.replicate n (.slice Au nu cu) ++ List.replicate (k - n) (.slice none 0 0))) ∧ Below g w wr) (fun i _ => k - (intOf i).toNat)
  case atStart => exact ⟨1, by omega, hk1, rfl, HO2, hb2⟩
  case round =>
    clear HO2 hb2
    obtain ⟨n, hn1, hnk, rfl, ho, hb⟩ := hrel
    by_cases hlt : n < k
    · obtain ⟨w3, hr0, ho3, hg3⟩ := run_fill (w := wr.drew) 3 ho.out hlt rfl
      have hmz : Nat.min n (k - n) = (if n ≤ k - n then n else k - n) := rfl
      obtain ⟨m, hm⟩ : ∃ m, Nat.min n (k - n) = m := ⟨_, rfl⟩
      have hm1 : 1 ≤ m ∧ n + m ≤ k := by
        rw [← hm]
        have := Nat.min_le_right n (k - n)
        have h2 : 1 ≤ Nat.min n (k - n) := Nat.le_min.2 ⟨hn1, by omega⟩
        have h3 : Nat.min n (k - n) ≤ k - n := Nat.min_le_right n (k - n)
        omega
      rw [hm] at hr0 ho3
      have hr : (copF #[22, 22] 3 #[.slice (some ⟨g, n, none⟩) (k - n) (k - n), .slice (some ⟨g, 0, none⟩) n k]).run Try.prog wr.drew = .ok (.int .i64 m) w3 := hr0
      have hb3 : Below g w w3 := hb.drew.grown hg3 (Nat.le_trans (Nat.le_of_eq HG.out.symm) hb.size) (fun k hk => by cases hk; exact Nat.le_refl _)
      have HO3 := Lib.hid ho3
      obtain ⟨hm2, hm3⟩ := hm1
      have i0 : (0 : Int) ≤ (n : Int) := by omega
      have i1 : (n : Int) ≤ (k : Int) := by omega
      have i2 : (n : Int) < (k : Int) := by omega
      clear hr0 ho3 hg3 hmz hm ho hb
      go_wp2_with fail
      go_region
      go_wp2
      refine ⟨⟨n + m, by omega, hm3, by go_num, HO3, hb3⟩, by simp [intOf]; omega⟩
    · obtain rfl : k = n := by omega
      have HR : Hid (RetRep k (.slice Au nu cu) w (.returned (.slice (some ⟨g, 0, none⟩) k k)) wr) := ⟨g, rfl, by
        have := ho.out
        rw [Nat.sub_self, List.replicate_zero, List.append_nil] at this
        rw [HG.out]
        exact this, by rw [HG.out]; exact hb⟩
      go_wp2
      go_ret
      exact HR.out
end Go.Proofs.Ythlidhfahaalgaa
namespace Go.Proofs.Ythlidhfahaalgaa
open Go.RowKit
attribute [local go_sem ↓ high] app_named cop_named
theorem rep_rows {w : World} {base k : Nat} {S : Nat → Prop} {U v : Value} {x : Bs} (ho : w.ownsRow base 35 1 v k (List.replicate k U)) (hU : BsAt w S U x) : OwnRw w base S v (List.replicate k x) := by
  refine ⟨List.replicate k U, by rw [List.length_replicate]; exact ho, fun i y u hy hu => ?_⟩
  rw [List.getElem?_replicate] at hy hu
  split at hy
  · rename_i h
    rw [if_pos h] at hu
    cases hy
    cases hu
    exact hU
  · cases hy
theorem dNew_1 (k : Int) (hk : k < 1) (S : Nat → Prop) (w : World) (hs : Hid (newT k = (Dk.zero, 1))) : Calls Try.prog 25 #[.int .i64 k] w (RetDk (newT k) S w) := by
  have hB : Below w.heap.size w (w.alloc (.cells #[.slice none 0 0, .slice none 0 0, .int .i64 0, .bool false] 25)) := ((Below.refl w.heap.size w).alloc (by simp <;> omega) (.cells #[.slice none 0 0, .slice none 0 0, .int .i64 0, .bool false] 25))
  go_enter Try.func25, Try.ntmps25
  go_wp2
  refine bodyPost_ret (v := .tuple #[.agg #[.slice none 0 0, .slice none 0 0, .int .i64 0, .bool false], .int .i64 1]) (by simp [results, Try.results25, go_sem]) rfl ?_
  exact ⟨_, _, Dk.zero, 1, rfl, hs, dkAt_zero _ _, hB⟩
theorem dNew_2 (k : Int) (hk1 : 1 ≤ k) (hk : 4096 < k) (S : Nat → Prop) (w : World) (hs : Hid (newT k = (Dk.zero, 1))) : Calls Try.prog 25 #[.int .i64 k] w (RetDk (newT k) S w) := by
  have hB : Below w.heap.size w (w.alloc (.cells #[.slice none 0 0, .slice none 0 0, .int .i64 0, .bool false] 25)) := ((Below.refl w.heap.size w).alloc (by simp <;> omega) (.cells #[.slice none 0 0, .slice none 0 0, .int .i64 0, .bool false] 25))
  go_enter Try.func25, Try.ntmps25
  go_wp2
  refine bodyPost_ret (v := .tuple #[.agg #[.slice none 0 0, .slice none 0 0, .int .i64 0, .bool false], .int .i64 1]) (by simp [results, Try.results25, go_sem]) rfl ?_
  exact ⟨_, _, Dk.zero, 1, rfl, hs, dkAt_zero _ _, hB⟩
theorem dNew_3 (k : Nat) (hk1 : 1 ≤ k) (hk : k ≤ 4096) (S : Nat → Prop) (w : World) (hs : Hid (newT k = (⟨List.replicate k zeros, [], -1, false⟩, 0))) : Calls Try.prog 25 #[.int .i64 k] w (RetDk (newT k) S w) := by
  have hB1 := (Below.refl w.heap.size w).alloc (Nat.le_refl _) (.cells #[.slice none 0 0, .slice none 0 0, .int .i64 0, .bool false] 25)
  have R1 := Box.new w [.slice none 0 0, .slice none 0 0, .int .i64 0, .bool false] 25
  obtain ⟨w2, hmk0, hz2, hb2⟩ := make_bs (w.alloc (.cells #[.slice none 0 0, .slice none 0 0, .int .i64 0, .bool false] 25))
  obtain ⟨z, hz⟩ : ∃ z, (w.alloc (.cells #[.slice none 0 0, .slice none 0 0, .int .i64 0, .bool false] 25)).heap.size = z := ⟨_, rfl⟩
  have hzw : z = w.heap.size + 1 := by rw [← hz]; simp
  rw [hz] at hmk0 hz2
  subst hzw
  have hmk : (Instr.makeSlice 35 (.int .i64 128) (.int .i64 128)).run Try.prog (w.alloc (.cells #[.slice none 0 0, .slice none 0 0, .int .i64 0, .bool false] 25)) = .ok (.slice (some ⟨w.heap.size + 1, 0, none⟩) 128 128) w2 := hmk0
  have R2 := R1.later hb2
  have hB2 := hB1.trans (hb2.mono hB1.size)
  have hZ2 : BsAt w2 (fun b => w.heap.size + 1 ≤ b) (.slice (some ⟨w.heap.size + 1, 0, none⟩) 128 128) zeros := hz2.bs (by rw [zeros_length]; simp [maxLen])
  have HZ2 := Lib.hid hZ2
  have HMK := Lib.hid hmk
  have hb3 := (Below.refl w2.heap.size w2).alloc (Nat.le_refl _) (.cells #[.slice (some ⟨w.heap.size + 1, 0, none⟩) 128 128] 35)
  have Y3 := Box.new w2 [.slice (some ⟨w.heap.size + 1, 0, none⟩) 128 128] 35
  have C := Lib.hid (dRepeat_any w2.heap.size k (some ⟨w.heap.size + 1, 0, none⟩) 128 128 _ hk1 hk (Y3.cell 0) Y3.lt)
  have hk2 : (1 : Int) ≤ (k : Int) := by omega
  have hk3 : (k : Int) ≤ 4096 := by omega
  have R3 := R2.later hb3
  have hB3 := hB2.trans (hb3.mono hB2.size)
  have hZ3 := Lib.hid (HZ2.out.keep (Keeps.of hb3))
  clear hz hmk0 hz2 hb2 hZ2 R1 hB1 R2 hB2 hb3 Y3 HZ2 HMK
  go_enter Try.func25, Try.ntmps25
  go_wp2_with fail
  refine C.out.mono ?_
  rintro e w4 ⟨g, rfl, ho, hb⟩
  have R4 := R3.later hb
  have hB4 := hB3.trans (hb.mono hB3.size)
  have hO4 := rep_rows ho (hZ3.out.keep (Keeps.of hb))
  have hs3 : w.heap.size < (w2.alloc (.cells #[.slice (some ⟨w.heap.size + 1, 0, none⟩) 128 128] 35)).heap.size := R3.lt
  obtain ⟨bs, hbs⟩ : ∃ bs, (w2.alloc (.cells #[.slice (some ⟨w.heap.size + 1, 0, none⟩) 128 128] 35)).heap.size = bs := ⟨_, rfl⟩
  rw [hbs] at hO4 hs3
  have HO4 := Lib.hid hO4
  clear ho hb hO4 R3 hB3 hZ3 C hbs
  obtain ⟨r0, r1, r2, r3⟩ := R4.c4
  have rf0 := R4.free 0
  have rf1 := R4.free 1
  have rf2 := R4.free 2
  have rf3 := R4.free 3
  have rz : w.heap.size < w4.heap.size := R4.lt
  go_wp2
  have nK : ∀ W : World, ¬ (Old (fun b => w.heap.size + 1 ≤ b ∨ bs ≤ b) W) (w.heap.size) := by
    intro W h
    rcases h.1 with h | h <;> omega
  have ZR := ((((R4.set 0 (.slice (some ⟨g, 0, none⟩) k k)).set 1 (.slice none 0 0)).set 2 (.int .i64 (-1))).set 3 (.bool false))
  have HB := ((((hB4.setCell (p := ⟨w.heap.size, 0, none⟩) (Nat.le_refl _) (.slice (some ⟨g, 0, none⟩) k k)).setCell (p := ⟨w.heap.size, 1, none⟩) (Nat.le_refl _) (.slice none 0 0)).setCell (p := ⟨w.heap.size, 2, none⟩) (Nat.le_refl _) (.int .i64 (-1))).setCell (p := ⟨w.heap.size, 3, none⟩) (Nat.le_refl _) (.bool false))
  have hO9 := HO4.out.keepK (w' := ((((w4.setCell ⟨w.heap.size, 0, none⟩ (.slice (some ⟨g, 0, none⟩) k k)).setCell ⟨w.heap.size, 1, none⟩ (.slice none 0 0)).setCell ⟨w.heap.size, 2, none⟩ (.int .i64 (-1))).setCell ⟨w.heap.size, 3, none⟩ (.bool false))) (Keeps.trans (Keeps.trans (Keeps.trans (Keeps.set _ (nK _) _) (Keeps.set _ (nK _) _)) (Keeps.set _ (nK _) _)) (Keeps.set _ (nK _) _))
  clear r0 r1 r2 r3 rf0 rf1 rf2 rf3 rz
  generalize ((((w4.setCell ⟨w.heap.size, 0, none⟩ (.slice (some ⟨g, 0, none⟩) k k)).setCell ⟨w.heap.size, 1, none⟩ (.slice none 0 0)).setCell ⟨w.heap.size, 2, none⟩ (.int .i64 (-1))).setCell ⟨w.heap.size, 3, none⟩ (.bool false)) = W at ZR HB hO9 ⊢
  obtain ⟨z0, z1, z2, z3⟩ := ZR.c4
  refine bodyPost_ret (v := .tuple #[.agg #[.slice (some ⟨g, 0, none⟩) k k, .slice none 0 0, .int .i64 (-1), .bool false], .int .i64 0]) (by simp [results, Try.results25, go_sem, z0, z1, z2, z3]) rfl ?_
  refine ⟨_, _, _, 0, rfl, hs, Lib.hid ⟨?_, wsAt_nil _ _⟩, HB⟩
  exact hO9.rows (by rw [List.length_replicate]; simp only [maxLen]; omega) (fun b h _ => .inr (by omega)) (fun b h => .inr (by omega))
theorem dNew_any (k : Int) (S : Nat → Prop) (w : World) : Calls Try.prog 25 #[.int .i64 k] w (RetDk (newT k) S w) := by
  by_cases h1 : k < 1
  · exact dNew_1 k h1 S w (by rw [Hid, newT, if_neg (by omega)])
  · by_cases h2 : 4096 < k
    · exact dNew_2 k (by omega) h2 S w (by rw [Hid, newT, if_neg (by omega)])
    · obtain ⟨n, rfl⟩ : ∃ n : Nat, k = n := ⟨k.toNat, by omega⟩
      exact dNew_3 n (by omega) (by omega) S w (by rw [Hid, newT, if_pos (by omega)]; rfl)
end Go.Proofs.Ythlidhfahaalgaa
namespace Go.Proofs.Ythlidhfahaalgaa
open Go.RowKit Go.Shelf
attribute [local go_sem] Oper.semAt_some
end Go.Proofs.Ythlidhfahaalgaa
namespace Go.Proofs.Ythlidhfahaalgaa
open Go.RowKit Go.Shelf
attribute [local go_sem] Oper.semAt_some
def RetBs (t : Bs × Int) (S : Nat → Prop) (w : World) (e : Ending) (w' : World) : Prop := ∃ (V : Value) (b : Bs) (er : Int), e = .returned (.tuple #[V, .int .i64 er]) ∧ Hid (t = (b, er)) ∧ Hid (BsAt w' (Grow S w) V b) ∧ Below w.heap.size w w'
theorem Box.put {w : World} {b l : Nat} {xs : List Value} (h : Box w b xs) (hne : b ≠ l) (o : Obj) : Box (w.putObj l o) b xs := by
  obtain ⟨t, ht⟩ := h
  exact ⟨t, (World.putObj_heap_other hne).trans ht⟩
theorem below_put {B D : Nat} {w w' : World} (h : Below B w w') (hD : B ≤ D) (o : Obj) : Below B w (w'.putObj D o) :=
  ⟨h.os, h.tape, h.output, by simpa using h.size, fun k hk => (World.putObj_heap_other (by omega)).trans (h.block k hk)⟩
theorem calls_of_wp_marks {P : Program} {f : FuncId} {fn : Func} {c : Code} {args : Array Value} {w : World} {R : Ending → World → Prop} (hf : P.funcs[f]? = some fn) (hb : fn.body = some c)
    (h : c.wp P (bodyPostM Fence.wide 6 P fn R) { tmps := args ++ Array.replicate (fn.ntmps - args.size) undef, defers := [] } w) : Calls P f args w R :=
  callsIn_wide.1 (callsIn_of_wp_marks (n := 6) hf hb trivial (wpIn_wide.2 h) rfl)
end Go.Proofs.Ythlidhfahaalgaa
namespace Go.Proofs.Ythlidhfahaalgaa
open Go.RowKit
attribute [local go_sem ↓ high] app_named cop_named
end Go.Proofs.Ythlidhfahaalgaa
namespace Go.Proofs.Ythlidhfahaalgaa
open Go.RowKit
attribute [local go_sem ↓ high] app_named cop_named
theorem OwnBs.form' {w : World} {base : Nat} {v : Value} {l : Bs} (h : OwnBs w base v l) : ∃ A c, v = .slice A l.length c := by
  rcases h.2 with ⟨h1, h2⟩ | ⟨g, cap, cur, hv, _⟩
  · exact ⟨none, 0, by rw [h1, h2]⟩
  · exact ⟨_, _, hv⟩
def OwnWs (w : World) (base : Nat) (S : Nat → Prop) (v : Value) (l : List Wr) : Prop :=
  ∃ V : Nat → Value, w.ownsRow base 76 2 v l.length (flat l.length 2 (wrCells l V)) ∧ ∀ (i : Nat) (x : Wr), l[i]? = some x → BsAt w S (V i) x.data
theorem OwnWs.ws {w : World} {base : Nat} {S S' : Nat → Prop} {v : Value} {l : List Wr} (h : OwnWs w base S v l) (hm : l.length ≤ maxLen) (h1 : ∀ b, S b → b < w.heap.size → S' b) (h2 : ∀ b, base ≤ b → S' b) : WsAt w S' v l := by
  obtain ⟨V, ho, hb⟩ := h
  obtain ⟨s, f⟩ := own_slp ho hm
  exact ⟨f, V, s.weak fun b hb _ => h2 b hb, fun i x hx => (hb i x hx).weak h1⟩
theorem OwnWs.alloc {w : World} {base : Nat} {S : Nat → Prop} {v : Value} {l : List Wr} (h : OwnWs w base S v l) (o : Obj) : OwnWs (w.alloc o) base S v l := by
  obtain ⟨V, ho, hb⟩ := h
  exact ⟨V, ho.alloc o, fun i x hx => (hb i x hx).keep (Keeps.of ((Below.refl _ _).alloc (Nat.le_refl _) o))⟩
end Go.Proofs.Ythlidhfahaalgaa
namespace Go.Proofs.Ythlidhfahaalgaa
open Go.RowKit
def strB (l : Bs) : ByteArray := ⟨l.toArray⟩
theorem strB_inj {l m : Bs} : strB l = strB m ↔ l = m := by
  constructor
  · intro h
    have := congrArg (fun x : ByteArray => x.data.toList) h
    simpa [strB] using this
  · rintro rfl; rfl
theorem strOfNums_bytes (l : Bs) : strOfNums (l.map fun x => (x.toNat : Int)) = strB l := by
  unfold strOfNums strB
  congr 1
  simp [List.map_map, Function.comp_def]
theorem BsAt.str {w : World} {S : Nat → Prop} {v : Value} {l : Bs} (h : BsAt w S v l) : (convert 35 9 v).run Try.prog w = .ok (.string (strB l)) w := by
  obtain ⟨_, A, c, rfl, hn, h1⟩ := h
  rcases A with _ | a
  · have hl : l = [] := by
      rcases l with _ | ⟨x, l⟩
      · rfl
      · obtain ⟨b, off, e, _⟩ := h1 0 (by simp)
        cases e
    subst hl
    rw [run_convert_bytes_nil w _ _ Try.underlying35 Try.underlying5 _ _ _ Try.underlying9]
    rfl
  · rcases Nat.eq_zero_or_pos l.length with h0 | h0
    · have hl : l = [] := List.eq_nil_of_length_eq_zero h0
      subst hl
      have hl : (loadCells a 0).run Try.prog w = .ok (([] : List Int).map (Value.int .u8)).toArray w := by simpa using run_loadCells_list (P := Try.prog) w a [] (fun j v hj => by simp at hj)
      rw [run_convert_bytes_string w _ _ _ _ _ _ Try.underlying35 Try.underlying5 Try.underlying9, List.length_nil, run_bytesToString w a 0 c [] hl]
      rfl
    · obtain ⟨b, off, e, _⟩ := h1 0 h0
      cases e
      rw [run_convert_bytes_arg w _ _ Try.underlying35 Try.underlying5 b off l.length c (l.map fun x => (x.toNat : Int)) (by simp) (fun i hi => ?_) _ Try.underlying9, strOfNums_bytes]
      obtain ⟨b', off', e', _, _, h3⟩ := h1 i hi
      cases e'
      have := h3 0 (by omega)
      rw [Nat.mul_one, Nat.add_zero] at this
      rw [this]
      simp [List.getD_eq_getElem?_getD, List.getElem?_eq_getElem hi]
theorem str_cmp {a b : Bs} {t : Bool} (h : decide (a = b) = t) : ((strB a).toList == (strB b).toList) = t ∧ decide (strB a = strB b) = t ∧ ((strB a).toList != (strB b).toList) = !t := by
  have e1 : ((strB a).toList == (strB b).toList) = t := by
    rw [← h, Bool.eq_iff_iff, ByteArray.toList_eq, ByteArray.toList_eq]
    simp [strB]
  have e2 : decide (strB a = strB b) = t := by rw [← h]; exact decide_eq_decide.2 strB_inj
  exact ⟨e1, e2, by rw [bne, e1]⟩
theorem dSame_no (a b : Dk) (As : Option Addr) (ns cs : Nat) (Ap : Option Addr) (np cp : Nat) (al : Int) (as' : Bool) (Bs' : Option Addr) (ms ds : Nat) (Bp : Option Addr) (mp dp : Nat) (bl : Int) (bs' : Bool) (w : World)
    (h : Hid (ns ≠ ms ∨ np ≠ mp ∨ al ≠ bl ∨ as' ≠ bs')) (hs : Hid (sameD a b = false)) :
    Calls Try.prog 23 #[.agg #[.slice As ns cs, .slice Ap np cp, .int .i64 al, .bool as'], .agg #[.slice Bs' ms ds, .slice Bp mp dp, .int .i64 bl, .bool bs']] w fun e w' => e = .returned (.bool (sameD a b)) ∧ Below w.heap.size w w' := by
  have hB := ((Below.refl w.heap.size w).alloc (Nat.le_refl _) (.cells #[.slice As ns cs, .slice Ap np cp, .int .i64 al, .bool as'] 25)).alloc (by simp) (.cells #[.slice Bs' ms ds, .slice Bp mp dp, .int .i64 bl, .bool bs'] 25)
  by_cases h1 : ns = ms
  · subst h1
    by_cases h2 : np = mp
    · subst h2
      by_cases h3 : al = bl
      · subst h3
        have h4 : as' ≠ bs' := by
          rcases h.out with h | h | h | h
          · exact absurd rfl h
          · exact absurd rfl h
          · exact absurd rfl h
          · exact h
        clear h
        rcases as' with _ | _ <;> rcases bs' with _ | _
        · exact absurd rfl h4
        · clear h4
          go_enter Try.func23, Try.ntmps23
          go_wp2
          go_ret
          exact ⟨by rw [hs.out]; rfl, hB⟩
        · clear h4
          go_enter Try.func23, Try.ntmps23
          go_wp2
          go_ret
          exact ⟨by rw [hs.out]; rfl, hB⟩
        · exact absurd rfl h4
      · have e1 : (al != bl) = true := by simpa using h3
        clear h3 h
        go_enter Try.func23, Try.ntmps23
        go_wp2
        go_ret
        exact ⟨by rw [hs.out]; rfl, hB⟩
    · have e1 : ((np : Int) != (mp : Int)) = true := by simp; omega
      have e2 : (np != mp) = true := by simp; omega
      clear h2 h
      go_enter Try.func23, Try.ntmps23
      go_wp2
      go_ret
      exact ⟨by rw [hs.out]; rfl, hB⟩
  · have e1 : ((ns : Int) != (ms : Int)) = true := by simp; omega
    have e2 : (ns != ms) = true := by simp; omega
    clear h1 h
    go_enter Try.func23, Try.ntmps23
    go_wp2
    go_ret
    exact ⟨by rw [hs.out]; rfl, hB⟩
theorem Later.str {W : World} {S : Nat → Prop} {v : Value} {l : Bs} (h : BsAt W S v l) (u : Later W) : (convert 35 9 v).run Try.prog u.w = .ok (.string (strB l)) u.w := (h.keep (Keeps.of u.below)).str
theorem dSame_go (a b : Dk) (As : Option Addr) (ns cs : Nat) (Ap : Option Addr) (np cp : Nat) (al : Int) (as' : Bool) (Bs' : Option Addr) (ds : Nat) (Bp : Option Addr) (dp : Nat) (S T : Nat → Prop) (w : World)
    (hA : Hid (DkAt w S (.slice As ns cs) (.slice Ap np cp) a)) (hE : Hid (DkAt w T (.slice Bs' ns ds) (.slice Bp np dp) b)) (hsb : ns ≤ 9223372036854775807) (hpb : np ≤ 9223372036854775807)
    (h1 : Hid (a.sectors.length = ns)) (h2 : Hid (b.sectors.length = ns)) (h3 : Hid (a.pending.length = np)) (h4 : Hid (b.pending.length = np)) (h5 : Hid (a.left = b.left)) (h6 : Hid (a.stopped = b.stopped)) :
    Calls Try.prog 23 #[.agg #[.slice As ns cs, .slice Ap np cp, .int .i64 al, .bool as'], .agg #[.slice Bs' ns ds, .slice Bp np dp, .int .i64 al, .bool as']] w fun e w' => e = .returned (.bool (sameD a b)) ∧ Below w.heap.size w w' := by
  have hB := ((Below.refl w.heap.size w).alloc (Nat.le_refl _) (.cells #[.slice As ns cs, .slice Ap np cp, .int .i64 al, .bool as'] 25)).alloc (by simp) (.cells #[.slice Bs' ns ds, .slice Bp np dp, .int .i64 al, .bool as'] 25)
  have X := (Box.new w [.slice As ns cs, .slice Ap np cp, .int .i64 al, .bool as'] 25).alloc (.cells #[.slice Bs' ns ds, .slice Bp np dp, .int .i64 al, .bool as'] 25)
  have Y := Box.newAt (w := w.alloc (.cells #[.slice As ns cs, .slice Ap np cp, .int .i64 al, .bool as'] 25)) (n := w.heap.size + 1) [.slice Bs' ns ds, .slice Bp np dp, .int .i64 al, .bool as'] 25 (by simp)
  have NE : Hid (∀ i : Nat, a.sectors.getD i [] ≠ b.sectors.getD i [] → Hid (sameD a b = false)) := by
    intro i hi
    rw [Hid, Bool.eq_false_iff]
    intro h
    have := sameD_eq.1 h
    subst this
    exact hi rfl
  have NE2 : Hid (∀ i : Nat, a.pending.getD i Wr.zero ≠ b.pending.getD i Wr.zero → Hid (sameD a b = false)) := by
    intro i hi
    rw [Hid, Bool.eq_false_iff]
    intro h
    have := sameD_eq.1 h
    subst this
    exact hi rfl
  go_enter Try.func23, Try.ntmps23
  go_wp2_with fail
  generalize (w.alloc (.cells #[.slice As ns cs, .slice Ap np cp, .int .i64 al, .bool as'] 25)).alloc (.cells #[.slice Bs' ns ds, .slice Bp np dp, .int .i64 al, .bool as'] 25) = W at hB X Y ⊢
  go_loopw [5] (fun i wr => ∃ k : Nat, k ≤ ns ∧ i = .int .i64 k ∧ Below w.heap.size w wr ∧ Box wr w.heap.size [.slice As ns cs, .slice Ap np cp, .int .i64 al, .bool as'] ∧ Box wr (w.heap.size + 1) [.slice Bs' ns ds, .slice Bp np dp, .int .i64 al, .bool as'] ∧ Hid (∀ j, j < k → a.sectors.getD j [] = b.sectors.getD j [])) (fun i _ => ns - (intOf i).toNat)
  case atStart => exact ⟨0, by omega, rfl, hB, X, Y, fun j hj => by omega⟩
  case round =>
    clear hB X Y
    obtain ⟨k, hk, rfl, hb, X, Y, hall⟩ := hrel
    have x0 : wr.cell? ⟨w.heap.size, 0, none⟩ = some (.slice As ns cs) := X.cell 0
    have y0 : wr.cell? ⟨w.heap.size + 1, 0, none⟩ = some (.slice Bs' ns ds) := Y.cell 0
    have xz := X.lt
    have yz := Y.lt
    by_cases hlt : k < ns
    · have hka : k < a.sectors.length := by rw [h1.out]; exact hlt
      have hkb : k < b.sectors.length := by rw [h2.out]; exact hlt
      obtain ⟨pb, po, V, rfl, hSp, hpb', q0, hV⟩ := hA.out.sectors.row hka
      obtain ⟨rb, ro, U, rfl, hSr, hrb', r0, hU⟩ := hE.out.sectors.row hkb
      have q0 := (hb.cell hpb').trans q0
      have r0 := (hb.cell hrb').trans r0
      have hpz := Nat.lt_of_lt_of_le hpb' hb.size
      have hrz := Nat.lt_of_lt_of_le hrb' hb.size
      have hV := hV.keep (Keeps.of hb)
      have hU := hU.keep (Keeps.of hb)
      have ea : a.sectors.getD k [] = a.sectors[k] := by rw [List.getD_eq_getElem?_getD, List.getElem?_eq_getElem hka]; rfl
      have eb : b.sectors.getD k [] = b.sectors[k] := by rw [List.getD_eq_getElem?_getD, List.getElem?_eq_getElem hkb]; rfl
      obtain ⟨y, hy⟩ : ∃ y, a.sectors[k] = y := ⟨_, rfl⟩
      obtain ⟨z, hz⟩ : ∃ z, b.sectors[k] = z := ⟨_, rfl⟩
      rw [hy] at hV ea
      rw [hz] at hU eb
      have HEA := Lib.hid ea
      have HEB := Lib.hid eb
      obtain ⟨t, ht⟩ : ∃ t, decide (y = z) = t := ⟨_, rfl⟩
      have HT := Lib.hid ht
      obtain ⟨s1, s2, s3⟩ := str_cmp ht
      have cv := Later.str hV
      have cu := Later.str hU
      obtain ⟨Av, cv', rfl, _⟩ := hV.form
      obtain ⟨Au, cu', rfl, _⟩ := hU.form
      generalize List.length y = ny at cv q0
      generalize List.length z = nz at cu r0
      generalize strB y = sy at s1 s2 s3 cv
      generalize strB z = sz at s1 s2 s3 cu
      clear ea eb ht hy hz hV hU hSp hSr
      have i1 : (0 : Int) ≤ (k : Int) := by omega
      have i2 : (k : Int) < (ns : Int) := by omega
      have j0 : ∀ u : Later wr, u.w.cell? ⟨w.heap.size, 0, none⟩ = some (.slice (some ⟨pb, po, none⟩) ns cs) := Later.cell x0 xz
      have j1 : ∀ u : Later wr, u.w.cell? ⟨w.heap.size + 1, 0, none⟩ = some (.slice (some ⟨rb, ro, none⟩) ns ds) := Later.cell y0 yz
      have j2 : ∀ u : Later wr, u.w.cell? ⟨pb, po + k, none⟩ = some (.slice Av ny cv') := Later.cell q0 hpz
      have j3 : ∀ u : Later wr, u.w.cell? ⟨rb, ro + k, none⟩ = some (.slice Au nz cu') := Later.cell r0 hrz
      clear q0 r0
      go_wp2_with fail
      refine wp_region_later (by kernel_rfl) (by kernel_rfl) ?_
      repeat (go_big_quiet_step (fail))
      refine wpQuiet_nil ?_
      intro _ hw'
      obtain ⟨yq, hw''⟩ := hw'
      subst hw''
      clear j0 j1 j2 j3 cv cu x0 y0
      obtain ⟨w3, hz3, hb3⟩ : ∃ z, yq.w = z ∧ Below wr.heap.size wr z := ⟨_, rfl, yq.below⟩
      rw [hz3]
      clear hz3
      have X := X.later hb3
      have Y := Y.later hb3
      have hb := hb.trans (hb3.mono hb.size)
      clear hb3 xz yz
      rcases t with _ | _
      · have HF := NE.out k (by rw [HEA.out, HEB.out]; exact of_decide_eq_false HT.out)
        go_wp2
        go_ret
        exact ⟨by rw [HF.out]; rfl, hb⟩
      · have hyz : Hid (y = z) := Lib.hid (of_decide_eq_true HT.out)
        go_wp2
        refine ⟨⟨k + 1, by omega, by go_num, hb, X, Y, fun j hj => ?_⟩, by simp [intOf]; omega⟩
        rcases Nat.lt_or_ge j k with h | h
        · exact hall.out j h
        · obtain rfl : j = k := by omega
          rw [HEA.out, HEB.out]
          exact hyz.out
    · obtain rfl : k = ns := by omega
      clear xz yz
      have hsec : Hid (a.sectors = b.sectors) := by
        apply List.ext_getElem?
        intro i
        rcases Nat.lt_or_ge i k with hi | hi
        · have := hall.out i hi
          rw [List.getD_eq_getElem?_getD, List.getD_eq_getElem?_getD, List.getElem?_eq_getElem (by rw [h1.out]; exact hi), List.getElem?_eq_getElem (by rw [h2.out]; exact hi)] at this
          rw [List.getElem?_eq_getElem (by rw [h1.out]; exact hi), List.getElem?_eq_getElem (by rw [h2.out]; exact hi)]
          exact congrArg some this
        · rw [List.getElem?_eq_none (by rw [h1.out]; exact hi), List.getElem?_eq_none (by rw [h2.out]; exact hi)]
      go_wp2_with fail
      clear x0 y0
      go_loopw [6] (fun i wr => ∃ q : Nat, q ≤ np ∧ i = .int .i64 q ∧ Below w.heap.size w wr ∧ Box wr w.heap.size [.slice As k cs, .slice Ap np cp, .int .i64 al, .bool as'] ∧ Box wr (w.heap.size + 1) [.slice Bs' k ds, .slice Bp np dp, .int .i64 al, .bool as'] ∧ Hid (∀ j, j < q → a.pending.getD j Wr.zero = b.pending.getD j Wr.zero)) (fun i _ => np - (intOf i).toNat)
      case atStart => exact ⟨0, by omega, rfl, hb, X, Y, fun j hj => by omega⟩
      case round =>
        clear hb X Y
        obtain ⟨q, hq, rfl, hb, X, Y, hall2⟩ := hrel
        have x0 : wr.cell? ⟨w.heap.size, 1, none⟩ = some (.slice Ap np cp) := X.cell 1
        have y0 : wr.cell? ⟨w.heap.size + 1, 1, none⟩ = some (.slice Bp np dp) := Y.cell 1
        have xz := X.lt
        have yz := Y.lt
        by_cases hlt : q < np
        · have hka : q < a.pending.length := by rw [h3.out]; exact hlt
          have hkb : q < b.pending.length := by rw [h4.out]; exact hlt
          obtain ⟨pb, po, V, rfl, hSp, hpb', q0, q1, hV⟩ := hA.out.pending.wr hka
          obtain ⟨rb, ro, U, rfl, hSr, hrb', r0, r1, hU⟩ := hE.out.pending.wr hkb
          have q0 := (hb.cell hpb').trans q0
          have r0 := (hb.cell hrb').trans r0
          have q1 := (hb.cell hpb').trans q1
          have r1 := (hb.cell hrb').trans r1
          have hpz := Nat.lt_of_lt_of_le hpb' hb.size
          have hrz := Nat.lt_of_lt_of_le hrb' hb.size
          have hV := hV.keep (Keeps.of hb)
          have hU := hU.keep (Keeps.of hb)
          have ea : a.pending.getD q Wr.zero = a.pending[q] := by rw [List.getD_eq_getElem?_getD, List.getElem?_eq_getElem hka]; rfl
          have eb : b.pending.getD q Wr.zero = b.pending[q] := by rw [List.getD_eq_getElem?_getD, List.getElem?_eq_getElem hkb]; rfl
          obtain ⟨⟨xa, y⟩, hy⟩ : ∃ y, a.pending[q] = y := ⟨_, rfl⟩
          obtain ⟨⟨ya, z⟩, hz⟩ : ∃ z, b.pending[q] = z := ⟨_, rfl⟩
          rw [hy] at hV ea q0
          rw [hz] at hU eb r0
          dsimp only at hV hU q0 r0
          have HEA := Lib.hid ea
          have HEB := Lib.hid eb
          obtain ⟨t, ht⟩ : ∃ t, decide (y = z) = t := ⟨_, rfl⟩
          have HT := Lib.hid ht
          obtain ⟨s1, s2, s3⟩ := str_cmp ht
          have cv := Later.str hV
          have cu := Later.str hU
          obtain ⟨Av, cv', rfl, _⟩ := hV.form
          obtain ⟨Au, cu', rfl, _⟩ := hU.form
          generalize List.length y = ny at cv q1
          generalize List.length z = nz at cu r1
          generalize strB y = sy at s1 s2 s3 cv
          generalize strB z = sz at s1 s2 s3 cu
          clear ea eb ht hy hz hV hU hSp hSr
          have i1 : (0 : Int) ≤ (q : Int) := by omega
          have i2 : (q : Int) < (np : Int) := by omega
          have j0 : ∀ u : Later wr, u.w.cell? ⟨w.heap.size, 1, none⟩ = some (.slice (some ⟨pb, po, none⟩) np cp) := Later.cell x0 xz
          have j1 : ∀ u : Later wr, u.w.cell? ⟨w.heap.size + 1, 1, none⟩ = some (.slice (some ⟨rb, ro, none⟩) np dp) := Later.cell y0 yz
          have j2 : ∀ u : Later wr, u.w.cell? ⟨pb, po + q * 2, none⟩ = some (.int .i64 xa) := Later.cell q0 hpz
          have j3 : ∀ u : Later wr, u.w.cell? ⟨rb, ro + q * 2, none⟩ = some (.int .i64 ya) := Later.cell r0 hrz
          have j4 : ∀ u : Later wr, u.w.cell? ⟨pb, po + q * 2 + 1, none⟩ = some (.slice Av ny cv') := Later.cell q1 hpz
          have j5 : ∀ u : Later wr, u.w.cell? ⟨rb, ro + q * 2 + 1, none⟩ = some (.slice Au nz cu') := Later.cell r1 hrz
          clear q0 r0 q1 r1
          rcases hxy : (xa != ya) with _ | _
          · have hxe : Hid (xa = ya) := Lib.hid (by simpa using hxy)
            go_wp2_with fail
            refine wp_region_later (by kernel_rfl) (by kernel_rfl) ?_
            repeat (go_big_quiet_step (fail))
            refine wpQuiet_nil ?_
            intro _ hw'
            obtain ⟨yq, hw''⟩ := hw'
            subst hw''
            clear j0 j1 j2 j3 j4 j5 cv cu x0 y0
            obtain ⟨w3, hz3, hb3⟩ : ∃ z, yq.w = z ∧ Below wr.heap.size wr z := ⟨_, rfl, yq.below⟩
            rw [hz3]
            clear hz3
            have X := X.later hb3
            have Y := Y.later hb3
            have hb := hb.trans (hb3.mono hb.size)
            clear hb3 xz yz
            rcases t with _ | _
            · have HF := NE2.out q (by rw [HEA.out, HEB.out]; intro h; injection h with _ h; exact of_decide_eq_false HT.out h)
              go_wp2
              go_ret
              exact ⟨by rw [HF.out]; rfl, hb⟩
            · have hyz : Hid (y = z) := Lib.hid (of_decide_eq_true HT.out)
              go_wp2
              refine ⟨⟨q + 1, by omega, by go_num, hb, X, Y, fun j hj => ?_⟩, by simp [intOf]; omega⟩
              rcases Nat.lt_or_ge j q with h | h
              · exact hall2.out j h
              · obtain rfl : j = q := by omega
                rw [HEA.out, HEB.out, hyz.out, hxe.out]
          · have hxe : Hid (xa ≠ ya) := Lib.hid (by simpa using hxy)
            go_wp2_with fail
            refine wp_region_later (by kernel_rfl) (by kernel_rfl) ?_
            repeat (go_big_quiet_step (fail))
            refine wpQuiet_nil ?_
            intro _ hw'
            obtain ⟨yq, hw''⟩ := hw'
            subst hw''
            clear j0 j1 j2 j3 j4 j5 cv cu x0 y0
            obtain ⟨w3, hz3, hb3⟩ : ∃ z, yq.w = z ∧ Below wr.heap.size wr z := ⟨_, rfl, yq.below⟩
            rw [hz3]
            clear hz3
            have X := X.later hb3
            have Y := Y.later hb3
            have hb := hb.trans (hb3.mono hb.size)
            clear hb3 xz yz
            have HF := NE2.out q (by rw [HEA.out, HEB.out]; intro h; injection h with h _; exact hxe.out h)
            go_wp2
            go_ret
            exact ⟨by rw [HF.out]; rfl, hb⟩
        · obtain rfl : q = np := by omega
          have hT : Hid (sameD a b = true) := Lib.hid (sameD_eq.2 (by
            have hpen : a.pending = b.pending := by
              apply List.ext_getElem?
              intro i
              rcases Nat.lt_or_ge i q with hi | hi
              · have := hall2.out i hi
                rw [List.getD_eq_getElem?_getD, List.getD_eq_getElem?_getD, List.getElem?_eq_getElem (by rw [h3.out]; exact hi), List.getElem?_eq_getElem (by rw [h4.out]; exact hi)] at this
                rw [List.getElem?_eq_getElem (by rw [h3.out]; exact hi), List.getElem?_eq_getElem (by rw [h4.out]; exact hi)]
                exact congrArg some this
              · rw [List.getElem?_eq_none (by rw [h3.out]; exact hi), List.getElem?_eq_none (by rw [h4.out]; exact hi)]
            obtain ⟨a1, a2, a3, a4⟩ := a
            obtain ⟨b1, b2, b3, b4⟩ := b
            have e1 := hsec.out
            have e2 := h5.out
            have e3 := h6.out
            dsimp only at e1 e2 e3 hpen
            subst e1 e2 e3 hpen
            rfl))
          go_wp2
          go_ret
          exact ⟨by rw [hT.out]; rfl, hb⟩
theorem dSame_any (a b : Dk) (Va Vb Ua Ub : Value) (S T : Nat → Prop) (w : World) (hA : DkAt w S Va Vb a) (hE : DkAt w T Ua Ub b) :
    Calls Try.prog 23 #[a.v Va Vb, b.v Ua Ub] w fun e w' => e = .returned (.bool (sameD a b)) ∧ Below w.heap.size w w' := by
  obtain ⟨As, cs, rfl, m1⟩ := hA.sectors.form
  obtain ⟨Ap, cp, rfl, m2⟩ := hA.pending.form
  obtain ⟨Es, ds, rfl, m3⟩ := hE.sectors.form
  obtain ⟨Ep, dp, rfl, m4⟩ := hE.pending.form
  unfold maxLen at m1 m2
  by_cases h : a.sectors.length = b.sectors.length ∧ a.pending.length = b.pending.length ∧ a.left = b.left ∧ a.stopped = b.stopped
  · obtain ⟨h1, h2, h3, h4⟩ := h
    have := dSame_go a b As a.sectors.length cs Ap a.pending.length cp a.left a.stopped Es ds Ep dp S T w hA (by rw [h1, h2]; exact hE) (by omega) (by omega) rfl h1.symm rfl h2.symm h3 h4
    rw [h1, h2] at this
    show Calls _ _ #[.agg #[.slice As a.sectors.length cs, .slice Ap a.pending.length cp, .int .i64 a.left, .bool a.stopped], .agg #[.slice Es b.sectors.length ds, .slice Ep b.pending.length dp, .int .i64 b.left, .bool b.stopped]] w _
    rw [h1, h2, ← h3, ← h4]
    exact this
  · have hs : sameD a b = false := by
      rw [Bool.eq_false_iff]
      intro h2
      have := sameD_eq.1 h2
      subst this
      exact h ⟨rfl, rfl, rfl, rfl⟩
    refine dSame_no a b As _ cs Ap _ cp _ _ Es _ ds Ep _ dp _ _ w ?_ hs
    rw [Hid]
    by_cases h1 : a.sectors.length = b.sectors.length
    · by_cases h2 : a.pending.length = b.pending.length
      · by_cases h3 : a.left = b.left
        · exact .inr (.inr (.inr (fun h4 => h ⟨h1, h2, h3, h4⟩)))
        · exact .inr (.inr (.inl h3))
      · exact .inr (.inl h2)
    · exact .inl h1
end Go.Proofs.Ythlidhfahaalgaa
