/-
  Contracts of numeral and encode of the reference. No condition.
-/
import Derived.Test.YtcokkloaljaanaaCQ
namespace Go.Proofs.Ytcokkloaljaanaa
open Go.RowKit
attribute [local go_sem ↓ high] app_named

/-- Bytes in a row of the call's own. -/
def RetOwn (l : Bs) (w : World) (e : Ending) (w' : World) : Prop := ∃ V, e = .returned V ∧ OwnBs w' w.heap.size V l ∧ Below w.heap.size w w'
theorem own_lit (w : World) (x : UInt8) : OwnBs (w.alloc (.cells #[.int .u8 (x.toNat : Int)] 5)) w.heap.size (.slice (some ⟨w.heap.size, 0, none⟩) 1 1) [x] :=
  ⟨rfl, .inr ⟨w.heap.size, 1, _, rfl, Nat.le_refl _, heap_alloc_new w _, Nat.le_refl _, by simp [maxLen], rfl, rfl⟩⟩
theorem OwnBs.mono {w : World} {base base' : Nat} {v : Value} {l : Bs} (h : OwnBs w base v l) (hb : base' ≤ base) : OwnBs w base' v l := by
  obtain ⟨hl, h⟩ := h
  refine ⟨hl, ?_⟩
  rcases h with h | ⟨g, cap, cur, hv, hbg, hr⟩
  · exact .inl h
  · exact .inr ⟨g, cap, cur, hv, Nat.le_trans hb hbg, hr⟩
/-- A literal of one byte, a call, and what the call returned appended. -/
theorem lit_app {w w1 : World} {x : UInt8} {V : Value} {l : Bs} (hO : OwnBs w1 (w.alloc (.cells #[.int .u8 (x.toNat : Int)] 5)).heap.size V l) (hB' : Below (w.alloc (.cells #[.int .u8 (x.toNat : Int)] 5)).heap.size (w.alloc (.cells #[.int .u8 (x.toNat : Int)] 5)) w1) (hl : l.length ≤ 100000000) :
    ∃ v' w', (appF #[27, 27] 27 #[.slice (some ⟨w.heap.size, 0, none⟩) 1 1, V]).run Try.prog w1 = .ok v' w' ∧ OwnBs w' w.heap.size v' (x :: l) ∧ Below w.heap.size w w' := by
  have hst := (Below.refl w.heap.size w).alloc (Nat.le_refl _) (.cells #[.int .u8 (x.toNat : Int)] 5)
  have ho := (own_lit w x).below hB'
  obtain ⟨v', w', hr, h1, h2, _⟩ := app_bytes ho (hO.bs (by simp only [maxLen]; omega)) (Nat.le_trans hst.size hB'.size) (by simp; omega)
  exact ⟨v', w', hr, h1, below_grown (hst.trans (hB'.mono hst.size)) ho (Nat.le_refl _) (Nat.le_trans hst.size hB'.size) h2⟩

set_option maxRecDepth 100000 in
set_option maxHeartbeats 1000000 in
theorem rNumeral_any (u : Nat) (hu : u < 18446744073709551616) : ∀ w : World, Calls Try.prog 42 #[.int .u64 u] w (RetOwn (numT u) w) := by
  induction u using Nat.strongRecOn with
  | _ u ih =>
    intro w
    by_cases h : u < 128
    · rw [numT_small h]
      have hx := own_lit w (UInt8.ofNat u)
      rw [u8_nat (by omega)] at hx
      have HR : Hid (RetOwn [UInt8.ofNat u] w (.returned (.slice (some ⟨w.heap.size, 0, none⟩) 1 1)) (w.alloc (.cells #[.int .u8 (u : Int)] 5))) := ⟨_, rfl, hx, (Below.refl _ _).alloc (Nat.le_refl _) _⟩
      clear hx ih
      go_enter Try.func42, Try.ntmps42
      go_wp2_with fail
      go_ret
      exact HR.out
    · have IH := Lib.hid (ih (u / 128) (by omega) (by omega))
      obtain ⟨T, hT⟩ : ∃ T, numT u = T := ⟨_, rfl⟩
      rw [hT]
      have HT : Hid (UInt8.ofNat (u % 128 + 128) :: numT (u / 128) = T) := by rw [Hid, ← numT_big h, hT]
      have hb : ((UInt8.ofNat (u % 128 + 128)).toNat : Int) = (u : Int) % 128 + 128 := by rw [u8_nat (by omega)]; omega
      have HB := Lib.hid hb
      clear ih hT hb
      go_enter Try.func42, Try.ntmps42
      go_wp2_with fail
      have e : (u : Int) / 128 = ((u / 128 : Nat) : Int) := by omega
      rw [e]
      refine (IH.out _).mono ?_
      rintro e w1 ⟨V, rfl, hO, hb1⟩
      rw [← HB.out] at hO hb1
      have hl := numT_le (u := u / 128) (by omega)
      obtain ⟨v2, w2, hr, hO2, hB2⟩ := lit_app hO hb1 (by omega)
      rw [HT.out] at hO2
      have HR : Hid (RetOwn T w (.returned v2) w2) := ⟨_, rfl, hO2, hB2⟩
      obtain ⟨A, cc, rfl⟩ := hO.form'
      clear hO hb1 hO2 hB2 HB HT IH e
      go_wp2
      go_ret
      exact HR.out

def EncR (d : Nat) : Prop := ∀ (x : Val) (L : Value) (w : World), ValsAt w w.heap.size d L x.elems → x.okB = true → x.fits → x.enc.length ≤ 79000000 →
    Calls Try.prog 27 #[x.v L] w (RetOwn x.enc w)

set_option maxRecDepth 100000 in
set_option maxHeartbeats 4000000 in
theorem rEncode_1 (n : Int) (h1 : -9223372036854775808 ≤ n) (h2 : n ≤ 9223372036854775807) (sb : ByteArray) (A : Option Addr) (m c : Nat) (w : World) :
    Calls Try.prog 27 #[.agg #[.int .i64 1, .int .i64 n, .string sb, .slice A m c]] w (RetOwn ([1] ++ numT (zig n)) w) := by
  have hst := (Below.refl w.heap.size w).alloc (Nat.le_refl _) (.cells #[.int .i64 1, .int .i64 n, .string sb, .slice A m c] 24)
  have ST := Lib.hid hst
  have X := (Box.new w [.int .i64 1, .int .i64 n, .string sb, .slice A m c] 24)
  clear hst
  have hl := numT_le (u := zig n) (zig_lt h1 h2)
  have HL := Lib.hid hl
  have HZ := Lib.hid (zig_lt h1 h2)
  clear hl
  go_enter Try.func27, Try.ntmps27
  go_wp2_with (go_at_call 43; refine (rUnsigned_any n _ h1 h2).mono ?_; rintro e w9 ⟨rfl, rfl⟩)
  refine (rNumeral_any _ HZ.out _).mono ?_
  rintro e w1 ⟨V, rfl, hO, hb1⟩
  obtain ⟨v2, w2, hr, hO2, hB2⟩ := lit_app (w := w.alloc (.cells #[.int .i64 1, .int .i64 n, .string sb, .slice A m c] 24)) (x := 1) hO hb1 (by have := HL.out; omega)
  have hz : (w.alloc (.cells #[.int .i64 1, .int .i64 n, .string sb, .slice A m c] 24)).heap.size = w.heap.size + 1 := by simp
  rw [hz] at hr
  have HR : Hid (RetOwn ([1] ++ numT (zig n)) w (.returned v2) w2) := ⟨_, rfl, hO2.mono (by simp), ST.out.trans (hB2.mono (by simp))⟩
  obtain ⟨A, cc, rfl⟩ := hO.form'
  clear hO hb1 hO2 hB2 HL HZ ST X hz
  go_wp2
  go_ret
  exact HR.out

/-- A call's bytes in hand, a literal of one byte, and the bytes appended to it. -/
theorem lit_app2 {w w1 : World} {x : UInt8} {V : Value} {l : Bs} (hO : OwnBs w1 w.heap.size V l) (hB : Below w.heap.size w w1) (hl : l.length ≤ 100000000) :
    ∃ v' w', (appF #[27, 27] 27 #[.slice (some ⟨w1.heap.size, 0, none⟩) 1 1, V]).run Try.prog (w1.alloc (.cells #[.int .u8 (x.toNat : Int)] 5)) = .ok v' w' ∧ OwnBs w' w.heap.size v' (x :: l) ∧ Below w.heap.size w w' := by
  have hst := (Below.refl w1.heap.size w1).alloc (Nat.le_refl _) (.cells #[.int .u8 (x.toNat : Int)] 5)
  have ho := (own_lit w1 x).mono hB.size
  obtain ⟨v', w', hr, h1, h2, _⟩ := app_bytes ho ((hO.below hst).bs (by simp only [maxLen]; omega)) (Nat.le_trans hB.size hst.size) (by simp; omega)
  exact ⟨v', w', hr, h1, below_grown (hB.trans (hst.mono hB.size)) ho (Nat.le_refl _) (Nat.le_trans hB.size hst.size) h2⟩

set_option maxRecDepth 100000 in
set_option maxHeartbeats 4000000 in
theorem rEncode_2 (n : Int) (s : Bs) (hs : s.length ≤ 9223372036854775807) (A : Option Addr) (m c : Nat) (w : World) (hl : s.length ≤ 90000000) :
    Calls Try.prog 27 #[.agg #[.int .i64 2, .int .i64 n, .string (strB s), .slice A m c]] w (RetOwn ([2] ++ numT s.length ++ s) w) := by
  have hst := (Below.refl w.heap.size w).alloc (Nat.le_refl _) (.cells #[.int .i64 2, .int .i64 n, .string (strB s), .slice A m c] 24)
  have ST := Lib.hid hst
  have X := (Box.new w [.int .i64 2, .int .i64 n, .string (strB s), .slice A m c] 24)
  have hz0 : (w.alloc (.cells #[.int .i64 2, .int .i64 n, .string (strB s), .slice A m c] 24)).heap.size = w.heap.size + 1 := by simp
  have hsz : (strB s).size = s.length := rfl
  have HN := Lib.hid (rNumeral_any s.length (by omega))
  have hnl := numT_le (u := s.length) (by omega)
  rw [← hsz] at HN
  have hsz2 : (strB s).size ≤ 9223372036854775807 := by rw [hsz]; omega
  have hwr : IntKind.u64.wrap ((strB s).size : Int) = ((strB s).size : Int) := by rw [wrap_u64']; omega
  -- what becomes of the bytes of the numeral, whichever comes first
  have hA : ∀ (v2 : Value) (w2 : World), Below (w.alloc (.cells #[.int .i64 2, .int .i64 n, .string (strB s), .slice A m c] 24)).heap.size (w.alloc (.cells #[.int .i64 2, .int .i64 n, .string (strB s), .slice A m c] 24)) w2 → OwnBs w2 (w.alloc (.cells #[.int .i64 2, .int .i64 n, .string (strB s), .slice A m c] 24)).heap.size v2 (2 :: numT s.length) → ∃ v3 w3, (appF #[27, 9] 27 #[v2, .string (strB s)]).run Try.prog w2 = .ok v3 w3 ∧ Hid (RetOwn ([2] ++ numT s.length ++ s) w (.returned v3) w3) ∧ w2.cell? ⟨w.heap.size, 2, none⟩ = some (.string (strB s)) ∧ w3.cell? ⟨w.heap.size, 2, none⟩ = some (.string (strB s)) := by
    intro v2 w2 hb ho
    obtain ⟨v3, w3, hr, h1, h2, _⟩ := app_str (s := s) ho hb.size (by simp; omega)
    have hb3 := below_grown hb ho (Nat.le_refl _) hb.size h2
    exact ⟨v3, w3, hr, ⟨v3, rfl, h1.mono (by simp), hst.trans (hb3.mono (by simp))⟩, (X.later hb).cell 2, (X.later hb3).cell 2⟩
  have HA := Lib.hid hA
  have HNL := Lib.hid hnl
  clear hst hA hnl
  rw [hsz] at HN
  generalize numT s.length = N at HN HA HNL ⊢
  rw [← hsz] at HN
  clear hsz
  generalize hT : [2] ++ N ++ s = T at HA ⊢
  clear hT
  generalize strB s = sb at ST X HN HA hsz2 hwr hz0 ⊢
  go_enter Try.func27, Try.ntmps27
  go_wp2_with fail
  have x2 : (w.alloc (.cells #[.int .i64 2, .int .i64 n, .string sb, .slice A m c] 24)).cell? ⟨w.heap.size, 2, none⟩ = some (.string sb) := X.cell 2
  have xz : w.heap.size < (w.alloc (.cells #[.int .i64 2, .int .i64 n, .string sb, .slice A m c] 24)).heap.size := X.lt
  generalize (w.alloc (.cells #[.int .i64 2, .int .i64 n, .string sb, .slice A m c] 24)) = W at ST X HA hz0 x2 xz ⊢
  have hz1 := Lib.hid hz0
  clear hz0
  go_region_held3 (fun w' => w'.cell? ⟨w.heap.size, 2, none⟩ = some (.string sb)) (go_keep) (((go_at_call 42; (with_reducible refine (HN.out _).mono ?_); rintro e w1 ⟨V, rfl, hO, hb1⟩; have hN : Hid (∃ A cc, V = .slice A N.length cc) := hO.form'; (first | (have hW := ((Below.refl W.heap.size W).alloc (Nat.le_refl _) (.cells #[.int .u8 2] 5)).drew.trans (hb1.mono (by simp)); obtain ⟨v2, w2, hr, hO2, hB2⟩ := lit_app (w := W) (x := 2) hO ((Below.refl _ _).drew.trans hb1) (by have := HNL.out; omega); have hr : (appF #[27, 27] 27 #[.slice (some ⟨W.heap.size, 0, none⟩) 1 1, V]).run Try.prog w1 = .ok v2 w2 := hr) | (have hW := (Below.refl W.heap.size W).drew.trans hb1; obtain ⟨v2, w2, hr, hO2, hB2⟩ := lit_app2 (w := W) (x := 2) hO hW (by have := HNL.out; omega); have hr : (appF #[27, 27] 27 #[.slice (some ⟨w1.heap.size, 0, none⟩) 1 1, V]).run Try.prog (w1.alloc (.cells #[.int .u8 2] 5)) = .ok v2 w2 := hr)); obtain ⟨v3, w3, hr3, HR, hc2, hc3⟩ := HA.out v2 w2 hB2 hO2; have hc1 : w1.cell? ⟨w.heap.size, 2, none⟩ = some (.string sb) := (X.later hW).cell 2; have hz1' : w.heap.size < w1.heap.size := (X.later hW).lt)))
  all_goals
    clear hO hb1 hO2 hB2 HNL hc1 hc2 hc3 hr hr3 x2 xz hW hN
    go_wp2
    go_ret
    exact HR.out

end Go.Proofs.Ytcokkloaljaanaa
