/- The reference of chapter 33: within, check, in, Holds. (Printed by pp.py.) No condition. -/
import Derived.Deep.CutBlock
import Derived.Test.YtancngachnpefaaQBC
import Derived.Test.YtancngachnpefaaQD
import Derived.Test.YtancngachnpefaaQMB
import Derived.Test.YtancngachnpefaaQI
import Derived.Test.YtancngachnpefaaQBM
import Derived.ArgAppend
set_option linter.unusedVariables false
set_option linter.unusedSimpArgs false
set_option maxRecDepth 100000
set_option maxHeartbeats 8000000
namespace Go.Proofs.Ytancngachnpefaa
open Go.RowKit
end Go.Proofs.Ytancngachnpefaa
namespace Go.Proofs.Ytancngachnpefaa
open Go.RowKit
attribute [local go_sem ↓ high] app_named
theorem rbPipes_is {p : Pl} {w : World} (hp : 0 ≤ p.pipe ∧ p.pipe ≤ 2) : Calls Try.prog 55 #[p.v] w fun e w' => e = .returned (.tuple #[.int .i64 p.m0, .int .i64 p.m1]) ∧ Below w.heap.size w w' := by
  obtain ⟨a0, a1, a2, a3, a4, a5, a6, a7, a8, a9, a10, a11⟩ := p
  dsimp only at hp
  rcases (show a9 = 0 ∨ a9 = 1 ∨ a9 = 2 by omega) with rfl | rfl | rfl
  · go_enter Try.func55, Try.ntmps55
    go_wp2
    go_ret2
    exact ⟨by simp [Pl.m0, Pl.m1], (Below.refl _ _).alloc (Nat.le_refl _) _⟩
  · go_enter Try.func55, Try.ntmps55
    go_wp2
    go_ret2
    exact ⟨by simp [Pl.m0, Pl.m1], (Below.refl _ _).alloc (Nat.le_refl _) _⟩
  · go_enter Try.func55, Try.ntmps55
    go_wp2_with fail
    go_quiet (fail)
    go_wp2
    go_ret2
    exact ⟨by simp [Pl.m0, Pl.m1], bel_drewN ((Below.refl _ _).alloc (Nat.le_refl _) _) nq⟩
theorem elem_state : ∃ i, Elem 43 30 i (.agg #[.int .i64 0, .int .i64 0, .int .i64 0, .int .i64 0, .int .i64 0, .int .i64 0]) 6 48 := by
  obtain ⟨i, h1, h2, h3, h4⟩ := info_parts (show (Try.prog.info? 30).map (fun i => (i.zero, i.size, i.bytes)) = some (some (.agg #[.int .i64 0, .int .i64 0, .int .i64 0, .int .i64 0, .int .i64 0, .int .i64 0]), 6, 48) by kernel_rfl)
  exact ⟨i, Try.underlying43, h1, h2, h3, h4, by decide, by decide⟩
theorem elem_shock : ∃ i, Elem 47 37 i (.agg #[.int .i64 0, .int .i64 0]) 2 16 := by
  obtain ⟨i, h1, h2, h3, h4⟩ := info_parts (show (Try.prog.info? 37).map (fun i => (i.zero, i.size, i.bytes)) = some (some (.agg #[.int .i64 0, .int .i64 0]), 2, 16) by kernel_rfl)
  exact ⟨i, Try.underlying47, h1, h2, h3, h4, by decide, by decide⟩
abbrev Sh.cells (x : Sh) : List Value := [.int .i64 x.feed, .int .i64 x.msg]
abbrev OwnSt (w : World) (base : Nat) (V : Value) (l : List St) : Prop := OwnE St.cells 6 w base 30 V l
abbrev OwnSh (w : World) (base : Nat) (V : Value) (l : List Sh) : Prop := OwnE Sh.cells 2 w base 37 V l
theorem st_one (x : St) : ∀ u ∈ x.cells, u.oneCell' = true := by
  intro u hu
  simp only [List.mem_cons, List.not_mem_nil, or_false] at hu
  rcases hu with rfl | rfl | rfl | rfl | rfl | rfl <;> rfl
def Pl.preSt (p : Pl) (k : Nat) : List St := (List.range k).map p.stAt
theorem preSt_succ (p : Pl) (k : Nat) : p.preSt (k + 1) = p.preSt k ++ [p.stAt k] := by rw [Pl.preSt, List.range_succ, List.map_append]; rfl
theorem preSt_len (p : Pl) (k : Nat) : (p.preSt k).length = k := by simp [Pl.preSt]
theorem stAt_of {p : Pl} (hv : p.Valid) {l q x y o a : Nat} (h1 : q < p.n0) (h2 : x < p.nx) (h3 : y < p.ny) (h4 : o < p.no) (h5 : a < p.na) :
    p.stAt (((((l * p.n0 + q) * p.nx + x) * p.ny + y) * p.no + o) * p.na + a) = ⟨(l : Int), (q : Int), (x : Int), (y : Int), (o : Int), (a : Int)⟩ := by
  obtain ⟨d5, r5⟩ := div_step (q := (((l * p.n0 + q) * p.nx + x) * p.ny + y) * p.no + o) h5
  obtain ⟨d4, r4⟩ := div_step (q := ((l * p.n0 + q) * p.nx + x) * p.ny + y) h4
  obtain ⟨d3, r3⟩ := div_step (q := (l * p.n0 + q) * p.nx + x) h3
  obtain ⟨d2, r2⟩ := div_step (q := l * p.n0 + q) h2
  obtain ⟨d1, r1⟩ := div_step (q := l) h1
  rw [stAt_q, d5, r5, d4, r4, d3, r3, d2, r2, d1, r1]
theorem up_mul (K N P : Nat) : (K * N + N) * P = (K + 1) * (N * P) := by rw [← Nat.mul_assoc, Nat.add_mul K 1 N, Nat.one_mul]
theorem up_one (K N : Nat) : K * N + N = (K + 1) * N := by rw [Nat.add_mul, Nat.one_mul]
theorem start_mul (K N P : Nat) : K * (N * P) = (K * N + 0) * P := by rw [Nat.add_zero, Nat.mul_assoc]
theorem lt_up {a b N M : Nat} (h1 : a < M) (h2 : b < N) : a * N + b < M * N := by
  have := Nat.mul_le_mul_right N (show a + 1 ≤ M by omega)
  rw [Nat.add_mul, Nat.one_mul] at this
  omega
theorem rbStates_any (p : Pl) (hv : Hid p.Valid) (hc : Hid (p.count ≤ 1048576)) (w : World) : Calls Try.prog 26 #[p.v] w fun e w' => ∃ V, e = .returned V ∧ ∃ B, w.heap.size ≤ B ∧ OwnSt w' B V p.states ∧ Below w.heap.size w w' := by
  obtain ⟨i0, E⟩ := elem_state
  obtain ⟨p1, p2, p3, p4, p5⟩ := hv.out.ns
  obtain ⟨m1, m2⟩ := hv.out.maxes
  have h1 := hv.out.positions
  have h2 := hv.out.top
  have h3 := hv.out.orders
  have h4 := hv.out.age
  change (p.nx : Int) - 1 = p.m0 at m1
  change (p.ny : Int) - 1 = p.m1 at m2
  have e0 : p.top = ((p.top + 1).toNat : Int) - 1 := by omega
  have e1 : p.positions = (p.n0 : Int) - 1 := by unfold Pl.n0; omega
  have e4 : p.orders = (p.no : Int) - 1 := by unfold Pl.no; omega
  have e5 : p.age = (p.na : Int) - 1 := by unfold Pl.na; omega
  have hst := fun l q x y o a => @stAt_of p hv.out l q x y o a
  have hcc : p.count = (p.top + 1).toNat * (p.n0 * (p.nx * (p.ny * (p.no * p.na)))) := rfl
  have hc' := hc.out
  rw [hcc] at hc'
  have hpipe := hv.out.pipe
  generalize hN0 : (p.top + 1).toNat = N0 at e0 hcc hc'
  generalize hN1 : p.n0 = N1 at e1 hst hcc hc' p1
  generalize hN2 : p.nx = N2 at m1 hst hcc hc' p2
  generalize hN3 : p.ny = N3 at m2 hst hcc hc' p3
  generalize hN4 : p.no = N4 at e4 hst hcc hc' p4
  generalize hN5 : p.na = N5 at e5 hst hcc hc' p5
  have E0 := Lib.hid e0
  have E1 := Lib.hid e1
  have E2 : Hid (p.m0 = (N2 : Int) - 1) := Lib.hid m1.symm
  have E3 : Hid (p.m1 = (N3 : Int) - 1) := Lib.hid m2.symm
  have E4 := Lib.hid e4
  have E5 := Lib.hid e5
  have HST := Lib.hid hst
  have HCC := Lib.hid hcc
  have HC := Lib.hid hc'
  have hsmall : N0 ≤ 64 ∧ N1 ≤ 16 ∧ N4 ≤ 8 ∧ N5 ≤ 8 ∧ N2 ≤ 16 ∧ N3 ≤ 16 := by
    have h5 := hv.out.feed
    refine ⟨by omega, by omega, by omega, by omega, ?_, ?_⟩
    · rw [← hN2]; unfold Pl.nx; split <;> omega
    · rw [← hN3]; unfold Pl.ny; split <;> omega
  obtain ⟨z0, z1, z4, z5, z2, z3⟩ := hsmall
  clear hN0 hN1 hN2 hN3 hN4 hN5 e0 e1 e4 e5 m1 m2 hst hcc hc' h1 h2 h3 h4
  go_enter Try.func26, Try.ntmps26
  go_wp2_with fail
  have X1 := Box.new w [.int .i64 p.top, .int .i64 p.bank, .int .i64 p.siphon, .int .i64 p.start, .int .i64 p.positions, .int .i64 p.rate, .int .i64 p.step, .int .i64 p.pass, .int .i64 p.feed, .int .i64 p.pipe, .int .i64 p.orders, .int .i64 p.age] 23
  have hB := (Below.refl w.heap.size w).alloc (Nat.le_refl _) (.cells #[.int .i64 p.top, .int .i64 p.bank, .int .i64 p.siphon, .int .i64 p.start, .int .i64 p.positions, .int .i64 p.rate, .int .i64 p.step, .int .i64 p.pass, .int .i64 p.feed, .int .i64 p.pipe, .int .i64 p.orders, .int .i64 p.age] 23)
  refine (rbPipes_is hpipe).mono ?_
  rintro e w0 ⟨rfl, hb⟩
  have X1 := X1.later hb
  have hB := hB.trans (hb.mono hB.size)
  clear hb
  go_upto_region 4 with fail
  have hBs : w.heap.size < w0.heap.size := X1.lt
  obtain ⟨B, hBe⟩ : ∃ B, w0.heap.size = B := ⟨_, rfl⟩
  have hsz : B ≤ w0.heap.size := by omega
  rw [hBe] at hBs
  clear hBe
  go_loopw [6, 5] (fun i V wr => ∃ l : Nat, l ≤ N0 ∧ i = .int .i64 l ∧ Hid (OwnSt wr B V (p.preSt (l * (N1 * (N2 * (N3 * (N4 * N5))))))) ∧ Box wr w.heap.size [.int .i64 p.top, .int .i64 p.bank, .int .i64 p.siphon, .int .i64 p.start, .int .i64 p.positions, .int .i64 p.rate, .int .i64 p.step, .int .i64 p.pass, .int .i64 p.feed, .int .i64 p.pipe, .int .i64 p.orders, .int .i64 p.age] ∧ Below w.heap.size w wr ∧ B ≤ wr.heap.size) (fun i _ _ => N0 - (intOf i).toNat)
  case atStart =>
    refine ⟨0, by omega, rfl, ?_, X1, hB, hsz⟩
    rw [Nat.zero_mul]
    exact Lib.hid (ownE_nil _ _ _ _ _)
  case round =>
    clear X1 hB hsz
    obtain ⟨l, hl, rfl, hO, X1, hB, hsz⟩ := hrel
    obtain ⟨wl, rfl⟩ : ∃ wl : World, wl = wr := ⟨_, rfl⟩
    have hz := X1.lt
    have xl : wl.cell? ⟨w.heap.size, 0, none⟩ = some (.int .i64 p.top) := X1.cell 0
    rcases Nat.lt_or_ge l N0 with hll | hge
    rotate_left
    · obtain rfl : l = N0 := by omega
      have hd2 : ¬ ((l : Int) ≤ p.top) := by have := E0.out; omega
      go_wp2
      go_ret
      refine ⟨_, rfl, B, by omega, ?_, hB⟩
      have := hO.out
      rw [← HCC.out] at this
      exact this
    have hd2 : (l : Int) ≤ p.top := by have := E0.out; omega
    go_wp2_with fail
    clear hd2 hz xl
    go_loopw [7, 5] (fun i V wr => ∃ q : Nat, q ≤ N1 ∧ i = .int .i64 q ∧ Hid (OwnSt wr B V (p.preSt ((l * N1 + q) * (N2 * (N3 * (N4 * N5)))))) ∧ Box wr w.heap.size [.int .i64 p.top, .int .i64 p.bank, .int .i64 p.siphon, .int .i64 p.start, .int .i64 p.positions, .int .i64 p.rate, .int .i64 p.step, .int .i64 p.pass, .int .i64 p.feed, .int .i64 p.pipe, .int .i64 p.orders, .int .i64 p.age] ∧ Below w.heap.size w wr ∧ B ≤ wr.heap.size) (fun i _ _ => N1 - (intOf i).toNat)
    case atStart =>
      refine ⟨0, by omega, rfl, ?_, X1, hB, hsz⟩
      rw [start_mul] at hO
      exact hO
    case round =>
      clear X1 hB hsz hO
      obtain ⟨q, hq, rfl, hO, X1, hB, hsz⟩ := hrel
      obtain ⟨wq, rfl⟩ : ∃ wq : World, wq = wr := ⟨_, rfl⟩
      have hz := X1.lt
      have xl : wq.cell? ⟨w.heap.size, 4, none⟩ = some (.int .i64 p.positions) := X1.cell 4
      rcases Nat.lt_or_ge q N1 with hlq | hge
      rotate_left
      · obtain rfl : q = N1 := by omega
        have hd2 : ¬ ((q : Int) ≤ p.positions) := by have := E1.out; omega
        go_wp2
        refine ⟨⟨l + 1, by omega, by go_num, ?_, X1, hB, hsz⟩, by simp [intOf]; omega⟩
        rw [up_mul] at hO
        exact hO
      have hd2 : (q : Int) ≤ p.positions := by have := E1.out; omega
      go_wp2_with fail
      clear hd2 hz xl
      go_loopw [8, 5] (fun i V wr => ∃ x : Nat, x ≤ N2 ∧ i = .int .i64 x ∧ Hid (OwnSt wr B V (p.preSt (((l * N1 + q) * N2 + x) * (N3 * (N4 * N5))))) ∧ Box wr w.heap.size [.int .i64 p.top, .int .i64 p.bank, .int .i64 p.siphon, .int .i64 p.start, .int .i64 p.positions, .int .i64 p.rate, .int .i64 p.step, .int .i64 p.pass, .int .i64 p.feed, .int .i64 p.pipe, .int .i64 p.orders, .int .i64 p.age] ∧ Below w.heap.size w wr ∧ B ≤ wr.heap.size) (fun i _ _ => N2 - (intOf i).toNat)
      case atStart =>
        refine ⟨0, by omega, rfl, ?_, X1, hB, hsz⟩
        rw [start_mul] at hO
        exact hO
      case round =>
        clear X1 hB hsz hO
        obtain ⟨x, hx, rfl, hO, X1, hB, hsz⟩ := hrel
        obtain ⟨wx, rfl⟩ : ∃ wx : World, wx = wr := ⟨_, rfl⟩
        have hz := X1.lt
        rcases Nat.lt_or_ge x N2 with hlx | hge
        rotate_left
        · obtain rfl : x = N2 := by omega
          have hd2 : ¬ ((x : Int) ≤ p.m0) := by have := E2.out; omega
          go_wp2
          refine ⟨⟨q + 1, by omega, by go_num, ?_, X1, hB, hsz⟩, by simp [intOf]; omega⟩
          rw [up_mul] at hO
          exact hO
        have hd2 : (x : Int) ≤ p.m0 := by have := E2.out; omega
        go_wp2_with fail
        clear hd2 hz
        go_loopw [9, 5] (fun i V wr => ∃ y : Nat, y ≤ N3 ∧ i = .int .i64 y ∧ Hid (OwnSt wr B V (p.preSt ((((l * N1 + q) * N2 + x) * N3 + y) * (N4 * N5)))) ∧ Box wr w.heap.size [.int .i64 p.top, .int .i64 p.bank, .int .i64 p.siphon, .int .i64 p.start, .int .i64 p.positions, .int .i64 p.rate, .int .i64 p.step, .int .i64 p.pass, .int .i64 p.feed, .int .i64 p.pipe, .int .i64 p.orders, .int .i64 p.age] ∧ Below w.heap.size w wr ∧ B ≤ wr.heap.size) (fun i _ _ => N3 - (intOf i).toNat)
        case atStart =>
          refine ⟨0, by omega, rfl, ?_, X1, hB, hsz⟩
          rw [start_mul] at hO
          exact hO
        case round =>
          clear X1 hB hsz hO
          obtain ⟨y, hy, rfl, hO, X1, hB, hsz⟩ := hrel
          obtain ⟨wy, rfl⟩ : ∃ wy : World, wy = wr := ⟨_, rfl⟩
          have hz := X1.lt
          rcases Nat.lt_or_ge y N3 with hly | hge
          rotate_left
          · obtain rfl : y = N3 := by omega
            have hd2 : ¬ ((y : Int) ≤ p.m1) := by have := E3.out; omega
            go_wp2
            refine ⟨⟨x + 1, by omega, by go_num, ?_, X1, hB, hsz⟩, by simp [intOf]; omega⟩
            rw [up_mul] at hO
            exact hO
          have hd2 : (y : Int) ≤ p.m1 := by have := E3.out; omega
          go_wp2_with fail
          clear hd2 hz
          go_loopw [10, 5] (fun i V wr => ∃ o : Nat, o ≤ N4 ∧ i = .int .i64 o ∧ Hid (OwnSt wr B V (p.preSt (((((l * N1 + q) * N2 + x) * N3 + y) * N4 + o) * N5))) ∧ Box wr w.heap.size [.int .i64 p.top, .int .i64 p.bank, .int .i64 p.siphon, .int .i64 p.start, .int .i64 p.positions, .int .i64 p.rate, .int .i64 p.step, .int .i64 p.pass, .int .i64 p.feed, .int .i64 p.pipe, .int .i64 p.orders, .int .i64 p.age] ∧ Below w.heap.size w wr ∧ B ≤ wr.heap.size) (fun i _ _ => N4 - (intOf i).toNat)
          case atStart =>
            refine ⟨0, by omega, rfl, ?_, X1, hB, hsz⟩
            rw [start_mul] at hO
            exact hO
          case round =>
            clear X1 hB hsz hO
            obtain ⟨o, ho, rfl, hO, X1, hB, hsz⟩ := hrel
            obtain ⟨wo, rfl⟩ : ∃ wo : World, wo = wr := ⟨_, rfl⟩
            have hz := X1.lt
            have xl : wo.cell? ⟨w.heap.size, 10, none⟩ = some (.int .i64 p.orders) := X1.cell 10
            rcases Nat.lt_or_ge o N4 with hlo | hge
            rotate_left
            · obtain rfl : o = N4 := by omega
              have hd2 : ¬ ((o : Int) ≤ p.orders) := by have := E4.out; omega
              go_wp2
              refine ⟨⟨y + 1, by omega, by go_num, ?_, X1, hB, hsz⟩, by simp [intOf]; omega⟩
              rw [up_mul] at hO
              exact hO
            have hd2 : (o : Int) ≤ p.orders := by have := E4.out; omega
            go_wp2_with fail
            clear hd2 hz xl
            go_loopw [11, 5] (fun i V wr => ∃ a : Nat, a ≤ N5 ∧ i = .int .i64 a ∧ Hid (OwnSt wr B V (p.preSt ((((((l * N1 + q) * N2 + x) * N3 + y) * N4 + o) * N5 + a)))) ∧ Box wr w.heap.size [.int .i64 p.top, .int .i64 p.bank, .int .i64 p.siphon, .int .i64 p.start, .int .i64 p.positions, .int .i64 p.rate, .int .i64 p.step, .int .i64 p.pass, .int .i64 p.feed, .int .i64 p.pipe, .int .i64 p.orders, .int .i64 p.age] ∧ Below w.heap.size w wr ∧ B ≤ wr.heap.size) (fun i _ _ => N5 - (intOf i).toNat)
            case atStart =>
              refine ⟨0, by omega, rfl, ?_, X1, hB, hsz⟩
              exact hO
            case round =>
              clear X1 hB hsz hO
              obtain ⟨a, ha, rfl, hO, X1, hB, hsz⟩ := hrel
              obtain ⟨wa, rfl⟩ : ∃ wa : World, wa = wr := ⟨_, rfl⟩
              have hz := X1.lt
              have xl : wa.cell? ⟨w.heap.size, 11, none⟩ = some (.int .i64 p.age) := X1.cell 11
              rcases Nat.lt_or_ge a N5 with hla | hge
              rotate_left
              · obtain rfl : a = N5 := by omega
                have hd2 : ¬ ((a : Int) ≤ p.age) := by have := E5.out; omega
                go_wp2
                refine ⟨⟨o + 1, by omega, by go_num, ?_, X1, hB, hsz⟩, by simp [intOf]; omega⟩
                rw [up_one] at hO
                exact hO
              have hd2 : (a : Int) ≤ p.age := by have := E5.out; omega
              have hlen : (p.preSt ((((((l * N1 + q) * N2 + x) * N3 + y) * N4 + o) * N5 + a))).length = (((((l * N1 + q) * N2 + x) * N3 + y) * N4 + o) * N5 + a) := preSt_len _ _
              have hkl : (((((l * N1 + q) * N2 + x) * N3 + y) * N4 + o) * N5 + a) < 1048576 := by
                have h1 := (lt_up (lt_up (lt_up (lt_up (lt_up hll hlq) hlx) hly) hlo) hla)
                have h2 := HC.out
                simp only [← Nat.mul_assoc] at h2
                omega
              have hnx := preSt_succ p ((((((l * N1 + q) * N2 + x) * N3 + y) * N4 + o) * N5 + a))
              rw [HST.out l q x y o a hlq hlx hly hlo hla] at hnx
              have HNX := Lib.hid hnx
              clear hnx
              have hbS := (Below.refl wa.heap.size wa).alloc (Nat.le_refl _) (.cells #[.int .i64 (l : Int), .int .i64 (q : Int), .int .i64 (x : Int), .int .i64 (y : Int), .int .i64 (o : Int), .int .i64 (a : Int)] 30)
              have hO1 := hO.out.later hbS
              have XN := Box.new wa [.int .i64 (l : Int), .int .i64 (q : Int), .int .i64 (x : Int), .int .i64 (y : Int), .int .i64 (o : Int), .int .i64 (a : Int)] 30
              obtain ⟨g', c', w', hr, hO2, hg⟩ := run_appE E (fun _ => rfl) st_one (by omega) (⟨(l : Int), (q : Int), (x : Int), (y : Int), (o : Int), (a : Int)⟩ : St) 43 hO1 XN (Nat.le_trans hsz hbS.size) (by rw [hlen]; omega)
              rw [← HNX.out] at hO2
              rw [hlen] at hO2 hr
              have hB1 := hB.trans (hbS.mono hB.size)
              have hB2 := OwnE.grown hO1 hg (by omega) hB1 hB1.size
              have X2 := box_grown hO1 hg (X1.alloc (.cells #[.int .i64 (l : Int), .int .i64 (q : Int), .int .i64 (x : Int), .int .i64 (y : Int), .int .i64 (o : Int), .int .i64 (a : Int)] 30)) (by omega)
              have hsz2 := Nat.le_trans hsz (Nat.le_trans hbS.size hg.size)
              have HO2 := Lib.hid hO2
              clear hO2 hg hO1 XN hB1 hbS hO hlen hkl
              generalize hkk : ((((l * N1 + q) * N2 + x) * N3 + y) * N4 + o) * N5 = KK at hr HO2
              have HKK := Lib.hid hkk
              clear hkk
              go_wp2
              refine ⟨⟨a + 1, by omega, by go_num, ?_, X2, hB2, hsz2⟩, by simp [intOf]; omega⟩
              rw [← Nat.add_assoc]
              exact HO2
end Go.Proofs.Ytancngachnpefaa
namespace Go.Proofs.Ytancngachnpefaa
open Go.RowKit
theorem one_st (s : St) : ∀ u ∈ s.cells, u.oneCell' = true := by
  intro u hu
  simp only [St.cells, List.mem_cons, List.not_mem_nil, or_false] at hu
  rcases hu with rfl | rfl | rfl | rfl | rfl | rfl <;> rfl
abbrev Row (w : World) (D : Nat) (V : Value) (l : List St) : Prop := OwnE St.cells 6 w D 30 V l
theorem one_box {w : World} {g : Nat} {s : St} (hx : Box w g s.cells) : ∀ j u, (s.cells)[j]? = some u → w.cell? ((⟨g, 0, none⟩ : Addr).add j) = some u := fun j u hu => by
  rw [add_at, Nat.zero_add, hx.cell j]
  exact hu
section
variable {w w' : World} {D g : Nat} {V : Value} {l : List St} {s : St}
theorem Row.form (h : Row w D V l) : ∃ A c, V = .slice A l.length c := by
  rcases h.2 with ⟨rfl, hl⟩ | ⟨b, cap, cur, hv, _⟩
  · exact ⟨none, 0, by rw [hl]⟩
  · exact ⟨some ⟨b, 0, none⟩, cap, hv⟩
theorem run_appS (ty : TypeId) (ho : Row w D V l) (hx : Box w g s.cells) (hD : D ≤ w.heap.size) (hl : l.length ≤ 1048576) :
    ∃ g' c' w', (appF #[43, 43] ty #[V, .slice (some ⟨g, 0, none⟩) 1 1]).run Try.prog w = .ok (.slice (some ⟨g', 0, none⟩) (l.length + 1) c') w' ∧ Row w' D (.slice (some ⟨g', 0, none⟩) (l.length + 1) c') (l ++ [s]) ∧ w.grownBy w' V.ownBlock ∧ (V.ownBlock = some g' ∨ g' = w.heap.size) := by
  obtain ⟨i, E⟩ := elem_state
  obtain ⟨v', w', hr, h3, h2, _, h5⟩ := run_append_own_at (P := Try.prog) w D 43 ty 30 i _ 6 48 E.ht E.hi E.hz E.hsize E.hby E.hzs E.hsz _ _ _ ho ⟨g, 0, none⟩ 1 1 s.cells rfl (one_box hx)
    (one_st s) (by simp only [maxLen]; omega) (by omega) hD
  have h6 := h3.2
  rcases h6 with ⟨_, h6⟩ | ⟨g', cap, cur, hv, _⟩
  · omega
  · subst hv
    refine ⟨g', cap, w', hr, ?_, h2, ?_⟩
    · show OwnE _ _ _ _ _ _ _
      rw [OwnE, List.length_append, List.flatMap_append]
      simpa using h3
    · rcases h5 with h5 | h5
      · exact .inl h5.symm
      · exact .inr (Option.some.inj h5)
theorem Row.cells? (h : Row w D V l) (hg : V.ownBlock = some g) : ∃ cs, w.heap[g]? = some (.cells cs 30 (0, 0)) := by
  rcases h.2 with ⟨rfl, _⟩ | ⟨b, cap, cur, hv, _, hh, _⟩
  · cases hg
  · rw [hv] at hg
    cases hg
    exact ⟨cur, hh⟩
theorem Row.notMap (h : Row w D V l) (hg : V.ownBlock = some g) {es : Array MapEntry} {c : Nat} (hm : w.heap[g]? = some (.map es c)) : False := by
  obtain ⟨cs, hc⟩ := h.cells? hg
  rw [hm] at hc
  cases hc
theorem Row.cellsOnly (h : Row w D V l) (hg : V.ownBlock = some g) {o : Obj} (ho : w.heap[g]? = some o) (hc : o.isCells = false) : False := by
  obtain ⟨cs, hcs⟩ := h.cells? hg
  rw [ho] at hcs
  cases hcs
  cases hc
theorem Row.lt (h : Row w D V l) (hg : V.ownBlock = some g) : D ≤ g ∧ g < w.heap.size := World.ownsRow.lt h g hg
theorem Row.kept {row : Option Nat} (h : Row w D V l) (hg : w.grownBy w' row) (hne : ∀ b, V.ownBlock = some b → row ≠ some b) : Row w' D V l :=
  World.ownsRow.kept h hg (by
    cases hv : V.ownBlock with
    | none => exact .inl rfl
    | some b => exact .inr (fun e => hne b hv e.symm))
theorem Row.same (h : Row w D V l) (hb : ∀ b, V.ownBlock = some b → w'.heap[b]? = w.heap[b]?) : Row w' D V l :=
  ⟨h.1, h.2.imp id fun ⟨g, cap, cur, hv, hD, hh, rest⟩ => ⟨g, cap, cur, hv, hD, (hb g (by rw [hv]; rfl)).trans hh, rest⟩⟩
def quB : Value → Option Nat
  | .slice (some a) _ (_ + 1) => some a.block
  | _ => none
def Qu (w : World) (D : Nat) (V : Value) (l : List St) : Prop :=
  (∃ A, V = .slice A 0 0 ∧ l = []) ∨ ∃ b pre cap, V = .slice (some ⟨b, pre.length * 6, none⟩) l.length (cap + 1) ∧ Row w D (.slice (some ⟨b, 0, none⟩) (pre ++ l).length (pre.length + (cap + 1))) (pre ++ l)
theorem Qu.nil (w : World) (D : Nat) : Qu w D (.slice none 0 0) [] := .inl ⟨none, rfl, rfl⟩
theorem Qu.form (h : Qu w D V l) : ∃ A c, V = .slice A l.length c := by
  rcases h with ⟨A, rfl, rfl⟩ | ⟨b, pre, cap, rfl, _⟩
  · exact ⟨_, _, rfl⟩
  · exact ⟨_, _, rfl⟩
theorem Qu.kept {row : Option Nat} (h : Qu w D V l) (hg : w.grownBy w' row) (hne : ∀ b, quB V = some b → row ≠ some b) : Qu w' D V l := by
  rcases h with h | ⟨b, pre, cap, rfl, h⟩
  · exact .inl h
  · exact .inr ⟨b, pre, cap, rfl, h.kept hg (fun b' hb' => by cases hb'; exact hne b rfl)⟩
theorem Qu.same (h : Qu w D V l) (hb : ∀ b, quB V = some b → w'.heap[b]? = w.heap[b]?) : Qu w' D V l := by
  rcases h with h | ⟨b, pre, cap, rfl, h⟩
  · exact .inl h
  · exact .inr ⟨b, pre, cap, rfl, h.same (fun b' hb' => by cases hb'; exact hb b rfl)⟩
theorem Qu.later (h : Qu w D V l) (hb : Below w.heap.size w w') : Qu w' D V l := h.kept (row := none) ⟨hb.os, hb.tape, hb.output, hb.size, fun i hi _ => hb.block i hi⟩ (fun _ _ e => by cases e)
theorem Qu.lt (h : Qu w D V l) (hg : quB V = some g) : D ≤ g ∧ g < w.heap.size := by
  rcases h with ⟨A, rfl, _⟩ | ⟨b, pre, cap, rfl, h⟩
  · cases A <;> cases hg
  · cases hg
    exact h.lt rfl
theorem Qu.notMap (h : Qu w D V l) (hg : quB V = some g) {es : Array MapEntry} {c : Nat} (hm : w.heap[g]? = some (.map es c)) : False := by
  rcases h with ⟨A, rfl, _⟩ | ⟨b, pre, cap, rfl, h⟩
  · cases A <;> cases hg
  · cases hg
    exact h.notMap rfl hm
theorem Qu.ofRow (h : Row w D V l) : Qu w D V l := by
  rcases h.2 with ⟨rfl, hl⟩ | ⟨b, cap, cur, hv, _, _, hc, _⟩
  · exact .inl ⟨none, rfl, List.length_eq_zero_iff.1 hl⟩
  · subst hv
    cases cap with
    | zero =>
      have hl : l.length = 0 := by omega
      exact .inl ⟨some ⟨b, 0, none⟩, by rw [hl], List.length_eq_zero_iff.1 hl⟩
    | succ cap =>
      refine .inr ⟨b, [], cap, by simp, ?_⟩
      simpa using h
theorem Qu.cellsOnly (h : Qu w D V l) (hg : quB V = some g) {o : Obj} (ho : w.heap[g]? = some o) (hc : o.isCells = false) : False := by
  rcases h with ⟨A, rfl, _⟩ | ⟨b, pre, cap, rfl, h⟩
  · cases A <;> cases hg
  · cases hg
    exact h.cellsOnly rfl ho hc
theorem Qu.cells? (h : Qu w D V l) (hg : quB V = some g) : ∃ cs, w.heap[g]? = some (.cells cs 30 (0, 0)) := by
  rcases h with ⟨A, rfl, _⟩ | ⟨b, pre, cap, rfl, h⟩
  · cases A <;> cases hg
  · cases hg
    exact h.cells? rfl
theorem Qu.head {r : List St} (h : Qu w D V (s :: r)) : ∃ b off cap, V = .slice (some ⟨b, off, none⟩) (r.length + 1) (cap + 1) ∧ D ≤ b ∧ b < w.heap.size ∧ (∀ j, j < 6 → w.cell? ⟨b, off + j, none⟩ = (s.cells)[j]?) ∧
    (∀ A, A = (if cap = 0 then some ⟨b, off, none⟩ else some ⟨b, off + 6, none⟩) → Qu w D (.slice A r.length cap) r ∧ (quB (.slice A r.length cap) = none ∨ quB (.slice A r.length cap) = some b)) := by
  rcases h with ⟨A, rfl, h⟩ | ⟨b, pre, cap, rfl, h⟩
  · cases h
  · obtain ⟨A, c, hv, hc⟩ := h.sl (fun _ => rfl)
    have hk : pre.length < (pre ++ s :: r).length := by simp
    obtain ⟨b', hA, h1, h2, h3⟩ := hc pre.length hk
    cases hv
    cases hA
    have e : (pre ++ s :: r)[pre.length] = s := by simp
    rw [e] at h3
    refine ⟨b, pre.length * 6, cap, rfl, h1, h2, h3, ?_⟩
    rintro A rfl
    have hcap := h.2
    rcases hcap with ⟨hv, _⟩ | ⟨_, cap', cur, hv, _, _, hle, _⟩
    · cases hv
    cases hv
    have hr : (pre ++ s :: r).length = pre.length + (r.length + 1) := by simp
    by_cases h0 : cap = 0
    · subst h0
      have hrl : r.length = 0 := by omega
      rw [if_pos rfl]
      exact ⟨.inl ⟨_, by rw [hrl], List.length_eq_zero_iff.1 hrl⟩, .inl rfl⟩
    · obtain ⟨cap, rfl⟩ : ∃ c, cap = c + 1 := ⟨cap - 1, by omega⟩
      rw [if_neg h0]
      refine ⟨.inr ⟨b, pre ++ [s], cap, ?_, ?_⟩, .inr rfl⟩
      · rw [List.length_append, Nat.add_mul]
        rfl
      · have e1 : pre ++ [s] ++ r = pre ++ s :: r := by simp
        have e2 : (pre ++ [s]).length + (cap + 1) = pre.length + (cap + 1 + 1) := by rw [List.length_append]; simp; omega
        rw [e1, e2]
        exact h
end
end Go.Proofs.Ytancngachnpefaa
