/- Contract of Check of package barrier, joined. No condition. -/
import Derived.Test.YtcjcjkomcolgeaaQBP
import Derived.Test.YtcjcjkomcolgeaaQBV
set_option linter.unusedVariables false
set_option linter.unusedSimpArgs false
namespace Go.Proofs.Ytcjcjkomcolgeaa
open Go.RowKit

theorem bCert_is {p : Pl} {c : List Ln} {b : List Iq} {V U : Value} {w : World} {t : Bool} {f : Fw} {er : Int} (h : Hid (certT p c b = (t, f, er))) (hC : CodeAt w w.heap.size V c) (hQ : BarAt w w.heap.size U b) :
    Calls Try.prog 29 #[p.v, .agg #[V], U] w fun e w' => e = .returned (.tuple #[.bool t, f.v, .int .i64 er]) ∧ Below w.heap.size w w' := by
  have h := h.out
  obtain ⟨A1, k, rfl, _⟩ := hQ.form
  obtain ⟨A2, k2, rfl, _⟩ := hC.form
  unfold certT at h
  by_cases h0 : askT p c = 0
  · rw [if_pos h0] at h
    by_cases hb : barT b = 0
    · rw [if_pos hb] at h
      obtain ⟨b0, b1, b2, b3, b4, b5, be, hbe⟩ : ∃ b0 b1 b2 b3 b4 b5 be, Hid (p.beginT = (⟨b0, b1, b2, b3, b4, b5⟩, be)) := ⟨_, _, _, _, _, _, _, rfl⟩
      by_cases hi : inB b p.beginT.1 = true
      · rw [if_pos hi] at h
        have hv := (Pl.check_zero (ask_zero h0).1).1
        rcases hf : p.states.findSome? (flawAt p c b) with _ | f'
        · rw [hf] at h
          simp only [Prod.mk.injEq] at h
          obtain ⟨rfl, rfl, rfl⟩ := h
          exact bCert_3 p c b A1 A2 _ k _ k2 w h0 hb hi hv b0 b1 b2 b3 b4 b5 be hbe true Fw.zero (by rw [Hid, hf]; rfl) (fun _ => rfl) hC hQ
        · rw [hf] at h
          simp only [Prod.mk.injEq] at h
          obtain ⟨rfl, rfl, rfl⟩ := h
          exact bCert_3 p c b A1 A2 _ k _ k2 w h0 hb hi hv b0 b1 b2 b3 b4 b5 be hbe false f' (by rw [Hid, hf]; rfl) (fun e => by cases e) hC hQ
      · rw [if_neg hi] at h
        simp only [Prod.mk.injEq] at h
        obtain ⟨rfl, rfl, rfl⟩ := h
        have hq : p.beginT.1 = ⟨b0, b1, b2, b3, b4, b5⟩ := congrArg Prod.fst hbe.out
        rw [hq]
        exact bCert_2 p c b A1 A2 _ k _ k2 w h0 hb (by rw [Hid]; exact Bool.eq_false_iff.2 hi) b0 b1 b2 b3 b4 b5 be hbe hC hQ
    · rw [if_neg hb] at h
      simp only [Prod.mk.injEq] at h
      obtain ⟨rfl, rfl, h2⟩ := h
      exact bCert_1 p c b A1 A2 _ k _ k2 w er h0 h2 (by rw [← h2]; exact hb) hC hQ
  · rw [if_neg h0] at h
    simp only [Prod.mk.injEq] at h
    obtain ⟨rfl, rfl, h2⟩ := h
    exact bCert_0 p c b A1 A2 _ k _ k2 w er h2 (by rw [← h2]; exact h0) hC hQ
end Go.Proofs.Ytcjcjkomcolgeaa

/-
  Contract of Check of the reference of chapter 33, joined. No condition.
-/
namespace Go.Proofs.Ytcjcjkomcolgeaa
open Go.RowKit

theorem count_is_I {p : Pl} (hv : p.Valid) : (p.count : Int) = p.countI := by
  have h0 := hv.top
  have h1 := hv.positions
  have h2 := hv.feed
  have h3 := hv.orders
  have h4 := hv.age
  have h5 := hv.pipe
  have e0 : ((p.top + 1).toNat : Int) = p.top + 1 := by omega
  have e1 : (p.n0 : Int) = p.positions + 1 := by unfold Pl.n0; omega
  have e4 : (p.no : Int) = p.orders + 1 := by unfold Pl.no; omega
  have e5 : (p.na : Int) = p.age + 1 := by unfold Pl.na; omega
  have e2 : (p.nx : Int) = if p.pipe = 0 then 1 else p.feed + 1 := by unfold Pl.nx; split <;> omega
  have e3 : (p.ny : Int) = if p.pipe = 2 then p.feed + 1 else 1 := by unfold Pl.ny; split <;> omega
  unfold Pl.count
  simp only [Int.natCast_mul, e0, e1, e2, e3, e4, e5]
  unfold Pl.countI Pl.sizeI
  rcases (show p.pipe = 0 ∨ p.pipe = 1 ∨ p.pipe = 2 by omega) with h | h | h <;> simp [h, Int.mul_assoc, Int.mul_comm, Int.mul_left_comm]
theorem count_small {p : Pl} (h : p.checkT = 0) : p.count ≤ 4096 := by
  obtain ⟨hv, hc⟩ := Pl.check_zero h
  have := count_is_I hv
  omega
theorem rbCert_is {p : Pl} {c : List Ln} {b : List Iq} {V U : Value} {w : World} {t : Bool} {f : Fw} {er : Int} (h : Hid (certT p c b = (t, f, er))) (hC : CodeAt w w.heap.size V c) (hQ : BarAt w w.heap.size U b) :
    Calls Try.prog 64 #[p.v, .agg #[V], U] w fun e w' => e = .returned (.tuple #[.bool t, f.v, .int .i64 er]) ∧ Below w.heap.size w w' := by
  have h := h.out
  obtain ⟨A1, k, rfl, _⟩ := hQ.form
  obtain ⟨A2, k2, rfl, _⟩ := hC.form
  unfold certT at h
  by_cases h0 : askT p c = 0
  · rw [if_pos h0] at h
    by_cases hb : barT b = 0
    · rw [if_pos hb] at h
      obtain ⟨b0, b1, b2, b3, b4, b5, be, hbe⟩ : ∃ b0 b1 b2 b3 b4 b5 be, Hid (p.beginT = (⟨b0, b1, b2, b3, b4, b5⟩, be)) := ⟨_, _, _, _, _, _, _, rfl⟩
      by_cases hi : inB b p.beginT.1 = true
      · rw [if_pos hi] at h
        have hv := (Pl.check_zero (ask_zero h0).1).1
        have hcn : Hid (p.count ≤ 1048576) := Lib.hid (Nat.le_trans (count_small (ask_zero h0).1) (by omega))
        rcases hf : p.states.findSome? (flawAt p c b) with _ | f'
        · rw [hf] at h
          simp only [Prod.mk.injEq] at h
          obtain ⟨rfl, rfl, rfl⟩ := h
          exact rbCert_3 p c b A1 A2 _ k _ k2 w h0 hb hi hv hcn b0 b1 b2 b3 b4 b5 be hbe true Fw.zero (by rw [Hid, hf]; rfl) (fun _ => rfl) hC hQ
        · rw [hf] at h
          simp only [Prod.mk.injEq] at h
          obtain ⟨rfl, rfl, rfl⟩ := h
          exact rbCert_3 p c b A1 A2 _ k _ k2 w h0 hb hi hv hcn b0 b1 b2 b3 b4 b5 be hbe false f' (by rw [Hid, hf]; rfl) (fun e => by cases e) hC hQ
      · rw [if_neg hi] at h
        simp only [Prod.mk.injEq] at h
        obtain ⟨rfl, rfl, rfl⟩ := h
        have hq : p.beginT.1 = ⟨b0, b1, b2, b3, b4, b5⟩ := congrArg Prod.fst hbe.out
        rw [hq]
        exact rbCert_2 p c b A1 A2 _ k _ k2 w h0 hb (by rw [Hid]; exact Bool.eq_false_iff.2 hi) b0 b1 b2 b3 b4 b5 be hbe hC hQ
    · rw [if_neg hb] at h
      simp only [Prod.mk.injEq] at h
      obtain ⟨rfl, rfl, h2⟩ := h
      exact rbCert_1 p c b A1 A2 _ k _ k2 w er h0 h2 (by rw [← h2]; exact hb) hC hQ
  · rw [if_neg h0] at h
    simp only [Prod.mk.injEq] at h
    obtain ⟨rfl, rfl, h2⟩ := h
    exact rbCert_0 p c b A1 A2 _ k _ k2 w er h2 (by rw [← h2]; exact h0) hC hQ
end Go.Proofs.Ytcjcjkomcolgeaa
