/-
  Contracts of slices.Index and slices.Contains over pairs. No condition.
-/
import Derived.Test.YtndjpaiakodciaaNK
import Derived.ChangeKeysEq
namespace Go.Proofs.Ytndjpaiakodciaa
open Go.RowKit

theorem info_int : (Try.prog.info? 3).map (fun i => i.size) = some 1 := by kernel_rfl
theorem eq_pair (d : Nat) (a b c e : Int) (w : World) : (Op.equalIn (d + 2) 55 (.agg #[.int .i64 a, .int .i64 b]) (.agg #[.int .i64 c, .int .i64 e])).run Try.prog w = .ok (decide (a = c) && decide (b = e)) w := by
  have hin := info_int
  cases hi : Try.prog.info? 3 with
  | none => rw [hi] at hin; cases hin
  | some i =>
    rw [run_equalIn_array w (d + 1) _ _ Try.underlying55 hi]
    have hc : Try.prog.cellsOf 3 = 1 := by kernel_rfl
    have hr : List.range 2 = [0, 1] := rfl
    rw [hc, hr]
    simp [Op.eqItems, part, go_sem]
    by_cases h1 : a = c <;> by_cases h2 : b = e <;> simp [h1, h2]
attribute [go_sem] eq_pair
theorem eq_link (d : Nat) (a b c e : Int) (w : World) : (Op.equalIn (d + 2) 58 (.agg #[.int .i64 a, .int .i64 b]) (.agg #[.int .i64 c, .int .i64 e])).run Try.prog w = .ok (decide (a = c) && decide (b = e)) w := by
  have hin := info_int
  cases hi : Try.prog.info? 3 with
  | none => rw [hi] at hin; cases hin
  | some i =>
    rw [run_equalIn_array w (d + 1) _ _ Try.underlying58 hi]
    have hc : Try.prog.cellsOf 3 = 1 := by kernel_rfl
    have hr : List.range 2 = [0, 1] := rfl
    rw [hc, hr]
    simp [Op.eqItems, part, go_sem]
    by_cases h1 : a = c <;> by_cases h2 : b = e <;> simp [h1, h2]
attribute [go_sem] eq_link
/-- Is the pair among these? -/
def hasB (l : List (Int × Int)) (a b : Int) : Bool := l.any fun x => decide (a = x.1) && decide (b = x.2)
theorem cutB_has (l : List (Int × Int)) (a b : Int) : cutB l a b = hasB l (min a b) (max a b) := by
  simp only [cutB, hasB, eq_comm]
theorem hasTake (l : List (Int × Int)) (a b : Int) {k : Nat} (hk : k < l.length) : hasB (l.take (k + 1)) a b = (hasB (l.take k) a b || (decide (a = (l.getD k (0, 0)).1) && decide (b = (l.getD k (0, 0)).2))) := by
  unfold hasB
  rw [List.take_succ_eq_append_getElem hk, List.any_append]
  simp [List.getD_eq_getElem?_getD, List.getElem?_eq_getElem hk]
theorem hasGood {l : List (Int × Int)} {a b : Int} {k : Nat} (hk : k < l.length) (h : (decide (a = (l.getD k (0, 0)).1) && decide (b = (l.getD k (0, 0)).2)) = true) : hasB l a b = true := by
  unfold hasB
  rw [List.any_eq_true]
  exact ⟨l[k], List.getElem_mem hk, by simpa [List.getD_eq_getElem?_getD, List.getElem?_eq_getElem hk] using h⟩

set_option maxRecDepth 100000 in
set_option maxHeartbeats 2000000 in
theorem nIndexLk_any (l : List (Int × Int)) (x y : Int) (v : Value) (w : World) (D : Nat) (hDw : D ≤ w.heap.size) (hL : LksAt w D v l) :
    Calls Try.prog 45 #[v, pairV x y] w (IxRes (hasB l x y) w) := by
  obtain ⟨A, c, rfl, hm⟩ := hL.form
  unfold maxLen at hm
  obtain ⟨n, hnn⟩ : ∃ n, l.length = n := ⟨_, rfl⟩
  rw [hnn] at hm hL ⊢
  have HN := Lib.hid hnn
  have HL := Lib.hid hL
  clear hnn hL
  have hX := Box.new w [.int .i64 x, .int .i64 y] 55
  have hB0 := (Below.refl w.heap.size w).alloc (Nat.le_refl _) (.cells #[.int .i64 x, .int .i64 y] 55)
  go_enter Try.func45, Try.ntmps45
  go_wp2_with fail
  generalize w.alloc (.cells #[.int .i64 x, .int .i64 y] 55) = W at hX hB0 ⊢
  go_loopw [8] (fun i wr => ∃ j : Nat, j ≤ n ∧ i = .int .i64 j ∧ Below w.heap.size w wr ∧ Box wr w.heap.size [.int .i64 x, .int .i64 y] ∧ Hid (hasB (l.take j) x y = false)) (fun i _ => n - (intOf i).toNat)
  case atStart => exact ⟨0, by omega, rfl, hB0, hX, rfl⟩
  case round =>
    obtain ⟨j, hj, rfl, hb, hY, hno⟩ := hrel
    have x0 : wr.cell? ⟨w.heap.size, 0, none⟩ = some (.int .i64 x) := hY.cell 0
    have x1 : wr.cell? ⟨w.heap.size, 1, none⟩ = some (.int .i64 y) := hY.cell 1
    have xz := hY.lt
    by_cases hlt : j < n
    · have hjl : j < l.length := by rw [HN.out]; exact hlt
      obtain ⟨b, off, rfl, hbw, hall⟩ := HL.out.lk (by omega)
      have hbv := Nat.lt_of_lt_of_le hbw hDw
      obtain ⟨q0, q1⟩ := hall j hjl
      have q0 := (hb.cell hbv).trans q0
      have q1 := (hb.cell hbv).trans q1
      have htk := hasTake l x y hjl
      have hgd := hasGood (a := x) (b := y) hjl
      obtain ⟨⟨z1, z2⟩, hz⟩ : ∃ z, l.getD j (0, 0) = z := ⟨_, rfl⟩
      rw [hz] at q0 q1 htk hgd
      dsimp only at q0 q1 htk hgd
      clear hall hz
      rw [hno.out, Bool.false_or] at htk
      have HT := Lib.hid htk
      have HG := Lib.hid hgd
      clear htk hgd
      have hbz : b < wr.heap.size := Nat.lt_of_lt_of_le hbv hb.size
      go_wp2_with fail
      go_region
      obtain ⟨t, ht⟩ : ∃ t, (decide (x = z1) && decide (y = z2)) = t := ⟨_, rfl⟩
      rw [ht] at HT HG
      rw [ht]
      have HF := hb.drew
      have hY := hY.drew
      clear ht
      rcases t with _ | _
      · go_wp2
        exact ⟨⟨j + 1, by omega, by go_num, HF, hY, HT⟩, by simp [intOf]; omega⟩
      · have hG := Lib.hid (HG.out rfl)
        go_wp2
        go_ret
        exact ⟨_, rfl, .inl ⟨hG.out, by omega⟩, HF⟩
    · obtain rfl : j = n := by omega
      have hF : Hid (hasB l x y = false) := by
        have := hno.out
        rw [← HN.out, List.take_length] at this
        exact this
      go_wp2
      go_ret
      exact ⟨_, rfl, .inr ⟨hF.out, by omega⟩, hb⟩

theorem nContainsLk_any (l : List (Int × Int)) (x y : Int) (v : Value) (w : World) (D : Nat) (hDw : D ≤ w.heap.size) (hL : LksAt w D v l) :
    Calls Try.prog 36 #[v, pairV x y] w fun e w' => e = .returned (.bool (hasB l x y)) ∧ Below w.heap.size w w' := by
  obtain ⟨A, c, rfl, hm⟩ := hL.form
  obtain ⟨n, hnn⟩ : ∃ n, l.length = n := ⟨_, rfl⟩
  obtain ⟨t, ht⟩ : ∃ t, hasB l x y = t := ⟨_, rfl⟩
  have hB0 := (Below.refl w.heap.size w).alloc (Nat.le_refl _) (.cells #[.int .i64 x, .int .i64 y] 55)
  have hI := nIndexLk_any l x y _ _ D (Nat.le_trans hDw hB0.size) (hL.below (hB0.mono hDw))
  rw [hnn] at hI ⊢
  rw [ht] at hI ⊢
  have HI := Lib.hid hI
  clear hI ht hL
  go_enter Try.func36, Try.ntmps36
  go_wp2_with fail
  refine HI.out.mono ?_
  rintro e w1 ⟨z, rfl, hz, hb1⟩
  have hb1 := hB0.trans (hb1.mono hB0.size)
  rcases hz.out with ⟨rfl, h0⟩ | ⟨rfl, h0⟩
  · have _hd : decide (0 ≤ z) = true := decide_eq_true h0
    go_wp2
    go_ret
    exact ⟨rfl, hb1⟩
  · have _hd : decide (0 ≤ z) = false := decide_eq_false (by omega)
    go_wp2
    go_ret
    exact ⟨rfl, hb1⟩

end Go.Proofs.Ytndjpaiakodciaa
