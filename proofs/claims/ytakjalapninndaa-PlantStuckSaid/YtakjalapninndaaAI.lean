/-
  Law 6 of chapter 32: PlantPipe. (Printed by gen_x6.py.)
-/
import Derived.Test.YtakjalapninndaaAB
import Derived.Test.YtakjalapninndaaAH
namespace Go.Proofs.Ytakjalapninndaa
open Go.RowKit

/-- v is a slice of shocks. -/
def ShocksAt (w : World) (B : Nat) (v : Value) (l : List Sh) : Prop :=
  Sl w B 2 l.length (fun i j => match l[i]? with | some x => (if j = 0 then .int .i64 x.feed else .int .i64 x.msg) | none => undef) v
theorem ShocksAt.below {w w' : World} {B : Nat} {v : Value} {l : List Sh} (h : ShocksAt w B v l) (hb : Below B w w') : ShocksAt w' B v l := Sl.below h hb
theorem ShocksAt.more {w : World} {B B' : Nat} {v : Value} {l : List Sh} (h : ShocksAt w B v l) (hb : B ≤ B') : ShocksAt w B' v l := Sl.more h hb
theorem ShocksAt.form {w : World} {B : Nat} {v : Value} {l : List Sh} (h : ShocksAt w B v l) : ∃ A c, v = .slice A l.length c ∧ l.length ≤ maxLen := by
  obtain ⟨A, c, hv, hn, _⟩ := h
  exact ⟨A, c, hv, hn⟩
theorem ShocksAt.shock {w : World} {B : Nat} {A : Option Addr} {n c : Nat} {l : List Sh} (h : ShocksAt w B (.slice A n c) l) (hn : 0 < l.length) :
    ∃ b off, A = some ⟨b, off, none⟩ ∧ b < B ∧ ∀ k (hk : k < l.length), w.cell? ⟨b, off + k * 2, none⟩ = some (.int .i64 (l[k]).feed) ∧ w.cell? ⟨b, off + k * 2 + 1, none⟩ = some (.int .i64 (l[k]).msg) := by
  obtain ⟨A', c', hv, _, h1⟩ := h
  cases hv
  obtain ⟨b, off, rfl, hb, _⟩ := h1 0 hn
  refine ⟨b, off, rfl, hb, fun k hk => ?_⟩
  obtain ⟨b', off', e', _, h3⟩ := h1 k hk
  cases e'
  have e : l[k]? = some l[k] := List.getElem?_eq_getElem hk
  have c0 := h3 0 (by omega)
  have c1 := h3 1 (by omega)
  simp only [e] at c0 c1
  exact ⟨c0, by rw [Nat.add_assoc]; exact c1⟩
theorem Box.keep {w w' : World} {b D : Nat} {xs : List Value} (h : Box w b xs) (hb : b < D) (hB : Below D w w') : Box w' b xs := h.same (hB.block b hb)
theorem chosen_at {p : Pl} {x : Sh} {q : Bool} (h : Hid (chosenB p x = q)) (w : World) : Calls Try.prog 23 #[p.v, x.v] w fun e w' => e = .returned (.bool q) ∧ Below w.heap.size w w' :=
  (Chosen_any p x w).mono fun _ _ ⟨he, hb⟩ => ⟨by rw [he, h.out], hb⟩

set_option maxRecDepth 100000 in
set_option maxHeartbeats 4000000 in
theorem law6_no (p : Pl) (code : List Ln) (V : Value) (l : List Sh) (A : Option Addr) (n c : Nat) (w : World) (hC : Hid (CodeAt w w.heap.size V code)) (_hL : Hid (ShocksAt w w.heap.size (.slice A n c) l)) (_hn : Hid (l.length = n)) (hf : Hid (fewB code = false)) : Calls Try.prog 6 #[p.v, .agg #[V], .slice A n c] w fun e w' => e = .returned (.bool true) ∧ Below w.heap.size w w' := by
  go_enter Try.func6, Try.ntmps6
  go_wp2_with fail
  refine (sane_any _).mono ?_
  rintro e w1 ⟨rfl, hb⟩
  have X0 := (((Box.newAt (n := w.heap.size) [.int .i64 p.top, .int .i64 p.bank, .int .i64 p.siphon, .int .i64 p.start, .int .i64 p.positions, .int .i64 p.rate, .int .i64 p.step, .int .i64 p.pass, .int .i64 p.feed, .int .i64 p.pipe, .int .i64 p.orders, .int .i64 p.age] 23 (by simp)).alloc _)).later hb
  have X1 := ((Box.newAt (n := w.heap.size + 1) [V] 39 (by simp))).later hb
  have hB : Below w.heap.size w w1 := ((((Below.refl w.heap.size w).alloc (by simp <;> omega) _).alloc (by simp <;> omega) _)).trans (hb.mono (by simp <;> omega))
  clear hb
  have X1c0 : w1.cell? ⟨w.heap.size + 1, 0, none⟩ = some (V) := X1.cell 0
  have X1f0 : w1.frozen? ⟨w.heap.size + 1, 0, none⟩ = false := X1.free 0
  have X1z : w.heap.size + 1 < w1.heap.size := X1.lt
  go_wp2_with fail
  refine (gfew_at hf ((hC.out.below hB).more hB.size)).mono ?_
  rintro e w2 ⟨rfl, hb⟩
  clear X1c0 X1f0 X1z
  have X0 := X0.later hb
  have X1 := X1.later hb
  have hB := hB.trans (hb.mono hB.size)
  clear hb
  go_wp2
  go_ret
  exact ⟨rfl, hB⟩

set_option maxRecDepth 100000 in
set_option maxHeartbeats 4000000 in
theorem law6_long (p : Pl) (code : List Ln) (V : Value) (l : List Sh) (A : Option Addr) (n c : Nat) (w : World) (hC : Hid (CodeAt w w.heap.size V code)) (_hL : Hid (ShocksAt w w.heap.size (.slice A n c) l)) (_hn : Hid (l.length = n)) (hf : Hid (fewB code = true)) (_hm : (100 : Int) < (n : Int)) : Calls Try.prog 6 #[p.v, .agg #[V], .slice A n c] w fun e w' => e = .returned (.bool true) ∧ Below w.heap.size w w' := by
  go_enter Try.func6, Try.ntmps6
  go_wp2_with fail
  refine (sane_any _).mono ?_
  rintro e w1 ⟨rfl, hb⟩
  have X0 := (((Box.newAt (n := w.heap.size) [.int .i64 p.top, .int .i64 p.bank, .int .i64 p.siphon, .int .i64 p.start, .int .i64 p.positions, .int .i64 p.rate, .int .i64 p.step, .int .i64 p.pass, .int .i64 p.feed, .int .i64 p.pipe, .int .i64 p.orders, .int .i64 p.age] 23 (by simp)).alloc _)).later hb
  have X1 := ((Box.newAt (n := w.heap.size + 1) [V] 39 (by simp))).later hb
  have hB : Below w.heap.size w w1 := ((((Below.refl w.heap.size w).alloc (by simp <;> omega) _).alloc (by simp <;> omega) _)).trans (hb.mono (by simp <;> omega))
  clear hb
  have X1c0 : w1.cell? ⟨w.heap.size + 1, 0, none⟩ = some (V) := X1.cell 0
  have X1f0 : w1.frozen? ⟨w.heap.size + 1, 0, none⟩ = false := X1.free 0
  have X1z : w.heap.size + 1 < w1.heap.size := X1.lt
  go_wp2_with fail
  refine (gfew_at hf ((hC.out.below hB).more hB.size)).mono ?_
  rintro e w2 ⟨rfl, hb⟩
  clear X1c0 X1f0 X1z
  have X0 := X0.later hb
  have X1 := X1.later hb
  have hB := hB.trans (hb.mono hB.size)
  clear hb
  go_wp2
  go_ret
  exact ⟨rfl, hB⟩

set_option maxRecDepth 100000 in
set_option maxHeartbeats 4000000 in
theorem law6_bad (p : Pl) (code : List Ln) (V : Value) (l : List Sh) (A : Option Addr) (n c : Nat) (w : World) (hC : Hid (CodeAt w w.heap.size V code)) (_hL : Hid (ShocksAt w w.heap.size (.slice A n c) l)) (_hn : Hid (l.length = n)) (hf : Hid (fewB code = true)) (_hm : (n : Int) ≤ 100) (er : Int) (ht : Hid (p.beginT = (St.zero, er))) (_h1 : (er == 0) = false) (_h2 : (er != 0) = true) : Calls Try.prog 6 #[p.v, .agg #[V], .slice A n c] w fun e w' => e = .returned (.bool true) ∧ Below w.heap.size w w' := by
  go_enter Try.func6, Try.ntmps6
  go_wp2_with fail
  refine (sane_any _).mono ?_
  rintro e w1 ⟨rfl, hb⟩
  have X0 := (((Box.newAt (n := w.heap.size) [.int .i64 p.top, .int .i64 p.bank, .int .i64 p.siphon, .int .i64 p.start, .int .i64 p.positions, .int .i64 p.rate, .int .i64 p.step, .int .i64 p.pass, .int .i64 p.feed, .int .i64 p.pipe, .int .i64 p.orders, .int .i64 p.age] 23 (by simp)).alloc _)).later hb
  have X1 := ((Box.newAt (n := w.heap.size + 1) [V] 39 (by simp))).later hb
  have hB : Below w.heap.size w w1 := ((((Below.refl w.heap.size w).alloc (by simp <;> omega) _).alloc (by simp <;> omega) _)).trans (hb.mono (by simp <;> omega))
  clear hb
  have X1c0 : w1.cell? ⟨w.heap.size + 1, 0, none⟩ = some (V) := X1.cell 0
  have X1f0 : w1.frozen? ⟨w.heap.size + 1, 0, none⟩ = false := X1.free 0
  have X1z : w.heap.size + 1 < w1.heap.size := X1.lt
  go_wp2_with fail
  refine (gfew_at hf ((hC.out.below hB).more hB.size)).mono ?_
  rintro e w2 ⟨rfl, hb⟩
  clear X1c0 X1f0 X1z
  have X0 := X0.later hb
  have X1 := X1.later hb
  have hB := hB.trans (hb.mono hB.size)
  clear hb
  have X0c0 : w2.cell? ⟨w.heap.size, 0, none⟩ = some (.int .i64 p.top) := X0.cell 0
  have X0f0 : w2.frozen? ⟨w.heap.size, 0, none⟩ = false := X0.free 0
  have X0c1 : w2.cell? ⟨w.heap.size, 1, none⟩ = some (.int .i64 p.bank) := X0.cell 1
  have X0f1 : w2.frozen? ⟨w.heap.size, 1, none⟩ = false := X0.free 1
  have X0c2 : w2.cell? ⟨w.heap.size, 2, none⟩ = some (.int .i64 p.siphon) := X0.cell 2
  have X0f2 : w2.frozen? ⟨w.heap.size, 2, none⟩ = false := X0.free 2
  have X0c3 : w2.cell? ⟨w.heap.size, 3, none⟩ = some (.int .i64 p.start) := X0.cell 3
  have X0f3 : w2.frozen? ⟨w.heap.size, 3, none⟩ = false := X0.free 3
  have X0c4 : w2.cell? ⟨w.heap.size, 4, none⟩ = some (.int .i64 p.positions) := X0.cell 4
  have X0f4 : w2.frozen? ⟨w.heap.size, 4, none⟩ = false := X0.free 4
  have X0c5 : w2.cell? ⟨w.heap.size, 5, none⟩ = some (.int .i64 p.rate) := X0.cell 5
  have X0f5 : w2.frozen? ⟨w.heap.size, 5, none⟩ = false := X0.free 5
  have X0c6 : w2.cell? ⟨w.heap.size, 6, none⟩ = some (.int .i64 p.step) := X0.cell 6
  have X0f6 : w2.frozen? ⟨w.heap.size, 6, none⟩ = false := X0.free 6
  have X0c7 : w2.cell? ⟨w.heap.size, 7, none⟩ = some (.int .i64 p.pass) := X0.cell 7
  have X0f7 : w2.frozen? ⟨w.heap.size, 7, none⟩ = false := X0.free 7
  have X0c8 : w2.cell? ⟨w.heap.size, 8, none⟩ = some (.int .i64 p.feed) := X0.cell 8
  have X0f8 : w2.frozen? ⟨w.heap.size, 8, none⟩ = false := X0.free 8
  have X0c9 : w2.cell? ⟨w.heap.size, 9, none⟩ = some (.int .i64 p.pipe) := X0.cell 9
  have X0f9 : w2.frozen? ⟨w.heap.size, 9, none⟩ = false := X0.free 9
  have X0c10 : w2.cell? ⟨w.heap.size, 10, none⟩ = some (.int .i64 p.orders) := X0.cell 10
  have X0f10 : w2.frozen? ⟨w.heap.size, 10, none⟩ = false := X0.free 10
  have X0c11 : w2.cell? ⟨w.heap.size, 11, none⟩ = some (.int .i64 p.age) := X0.cell 11
  have X0f11 : w2.frozen? ⟨w.heap.size, 11, none⟩ = false := X0.free 11
  have X0z : w.heap.size < w2.heap.size := X0.lt
  go_wp2_with fail
  refine (begin_is ht).mono ?_
  rintro e w3 ⟨rfl, hb⟩
  clear X0c0 X0f0 X0c1 X0f1 X0c2 X0f2 X0c3 X0f3 X0c4 X0f4 X0c5 X0f5 X0c6 X0f6 X0c7 X0f7 X0c8 X0f8 X0c9 X0f9 X0c10 X0f10 X0c11 X0f11 X0z
  have X0 := X0.later hb
  have X1 := X1.later hb
  have hB := hB.trans (hb.mono hB.size)
  clear hb
  go_wp2
  go_ret
  exact ⟨rfl, hB.alloc hB.size _⟩

set_option maxRecDepth 100000 in
set_option maxHeartbeats 4000000 in
theorem law6_run (p : Pl) (code : List Ln) (V : Value) (l : List Sh) (A : Option Addr) (n c : Nat) (w : World) (hC : Hid (CodeAt w w.heap.size V code)) (hL : Hid (ShocksAt w w.heap.size (.slice A n c) l)) (hn : Hid (l.length = n)) (hf : Hid (fewB code = true)) (hm : (n : Int) ≤ 100) (hk0 : Hid (p.checkT = 0)) (ht : Hid (p.beginT = ((⟨p.start, 0, 0, 0, 0, p.age⟩ : St), 0))) : Calls Try.prog 6 #[p.v, .agg #[V], .slice A n c] w fun e w' => e = .returned (.bool true) ∧ Below w.heap.size w w' := by
  go_enter Try.func6, Try.ntmps6
  go_wp2_with fail
  refine (sane_any _).mono ?_
  rintro e w1 ⟨rfl, hb⟩
  have X0 := (((Box.newAt (n := w.heap.size) [.int .i64 p.top, .int .i64 p.bank, .int .i64 p.siphon, .int .i64 p.start, .int .i64 p.positions, .int .i64 p.rate, .int .i64 p.step, .int .i64 p.pass, .int .i64 p.feed, .int .i64 p.pipe, .int .i64 p.orders, .int .i64 p.age] 23 (by simp)).alloc _)).later hb
  have X1 := ((Box.newAt (n := w.heap.size + 1) [V] 39 (by simp))).later hb
  have hB : Below w.heap.size w w1 := ((((Below.refl w.heap.size w).alloc (by simp <;> omega) _).alloc (by simp <;> omega) _)).trans (hb.mono (by simp <;> omega))
  clear hb
  have X1c0 : w1.cell? ⟨w.heap.size + 1, 0, none⟩ = some (V) := X1.cell 0
  have X1f0 : w1.frozen? ⟨w.heap.size + 1, 0, none⟩ = false := X1.free 0
  have X1z : w.heap.size + 1 < w1.heap.size := X1.lt
  go_wp2_with fail
  refine (gfew_at hf ((hC.out.below hB).more hB.size)).mono ?_
  rintro e w2 ⟨rfl, hb⟩
  clear X1c0 X1f0 X1z
  have X0 := X0.later hb
  have X1 := X1.later hb
  have hB := hB.trans (hb.mono hB.size)
  clear hb
  have X0c0 : w2.cell? ⟨w.heap.size, 0, none⟩ = some (.int .i64 p.top) := X0.cell 0
  have X0f0 : w2.frozen? ⟨w.heap.size, 0, none⟩ = false := X0.free 0
  have X0c1 : w2.cell? ⟨w.heap.size, 1, none⟩ = some (.int .i64 p.bank) := X0.cell 1
  have X0f1 : w2.frozen? ⟨w.heap.size, 1, none⟩ = false := X0.free 1
  have X0c2 : w2.cell? ⟨w.heap.size, 2, none⟩ = some (.int .i64 p.siphon) := X0.cell 2
  have X0f2 : w2.frozen? ⟨w.heap.size, 2, none⟩ = false := X0.free 2
  have X0c3 : w2.cell? ⟨w.heap.size, 3, none⟩ = some (.int .i64 p.start) := X0.cell 3
  have X0f3 : w2.frozen? ⟨w.heap.size, 3, none⟩ = false := X0.free 3
  have X0c4 : w2.cell? ⟨w.heap.size, 4, none⟩ = some (.int .i64 p.positions) := X0.cell 4
  have X0f4 : w2.frozen? ⟨w.heap.size, 4, none⟩ = false := X0.free 4
  have X0c5 : w2.cell? ⟨w.heap.size, 5, none⟩ = some (.int .i64 p.rate) := X0.cell 5
  have X0f5 : w2.frozen? ⟨w.heap.size, 5, none⟩ = false := X0.free 5
  have X0c6 : w2.cell? ⟨w.heap.size, 6, none⟩ = some (.int .i64 p.step) := X0.cell 6
  have X0f6 : w2.frozen? ⟨w.heap.size, 6, none⟩ = false := X0.free 6
  have X0c7 : w2.cell? ⟨w.heap.size, 7, none⟩ = some (.int .i64 p.pass) := X0.cell 7
  have X0f7 : w2.frozen? ⟨w.heap.size, 7, none⟩ = false := X0.free 7
  have X0c8 : w2.cell? ⟨w.heap.size, 8, none⟩ = some (.int .i64 p.feed) := X0.cell 8
  have X0f8 : w2.frozen? ⟨w.heap.size, 8, none⟩ = false := X0.free 8
  have X0c9 : w2.cell? ⟨w.heap.size, 9, none⟩ = some (.int .i64 p.pipe) := X0.cell 9
  have X0f9 : w2.frozen? ⟨w.heap.size, 9, none⟩ = false := X0.free 9
  have X0c10 : w2.cell? ⟨w.heap.size, 10, none⟩ = some (.int .i64 p.orders) := X0.cell 10
  have X0f10 : w2.frozen? ⟨w.heap.size, 10, none⟩ = false := X0.free 10
  have X0c11 : w2.cell? ⟨w.heap.size, 11, none⟩ = some (.int .i64 p.age) := X0.cell 11
  have X0f11 : w2.frozen? ⟨w.heap.size, 11, none⟩ = false := X0.free 11
  have X0z : w.heap.size < w2.heap.size := X0.lt
  go_wp2_with fail
  refine (begin_is ht).mono ?_
  rintro e w3 ⟨rfl, hb⟩
  clear X0c0 X0f0 X0c1 X0f1 X0c2 X0f2 X0c3 X0f3 X0c4 X0f4 X0c5 X0f5 X0c6 X0f6 X0c7 X0f7 X0c8 X0f8 X0c9 X0f9 X0c10 X0f10 X0c11 X0f11 X0z
  have X0 := X0.later hb
  have X1 := X1.later hb
  have hB := hB.trans (hb.mono hB.size)
  clear hb
  have hv := (Pl.check_zero hk0.out).1
  obtain ⟨P, hP⟩ := Int.eq_ofNat_of_zero_le hv.pipe.1
  have hP2 : P ≤ 2 := by have := hv.pipe; omega
  have hst := hv.start
  have htop := hv.top
  obtain ⟨hq1, hq2⟩ := hst
  obtain ⟨hq3, hq4⟩ := htop
  have HV := Lib.hid hv
  have HP := Lib.hid hP
  clear hv hP
  have h0D := X1.lt
  have hD := hB.size
  go_wp2_with fail
  have SX := Box.new w3 [.int .i64 p.start, .int .i64 0, .int .i64 0, .int .i64 0, .int .i64 0, .int .i64 p.age] 26
  have X0 := X0.alloc (.cells #[.int .i64 p.start, .int .i64 0, .int .i64 0, .int .i64 0, .int .i64 0, .int .i64 p.age] 26)
  have X1 := X1.alloc (.cells #[.int .i64 p.start, .int .i64 0, .int .i64 0, .int .i64 0, .int .i64 0, .int .i64 p.age] 26)
  have hB := hB.alloc hB.size (.cells #[.int .i64 p.start, .int .i64 0, .int .i64 0, .int .i64 0, .int .i64 0, .int .i64 p.age] 26)
  generalize w3.alloc (.cells #[.int .i64 p.start, .int .i64 0, .int .i64 0, .int .i64 0, .int .i64 0, .int .i64 p.age] 26) = W at SX X0 X1 hB ⊢
  generalize w3.heap.size = D at SX hD h0D ⊢
  clear ht
  go_loopw [9, 10, 11, 12, 39] (fun a b c d i wr => ∃ (k : Nat) (s : St) (fed arr pas ovr : Int), k ≤ n ∧ a = .int .i64 fed ∧ b = .int .i64 arr ∧ c = .int .i64 pas ∧ d = .int .i64 ovr ∧ i = .int .i64 k ∧ Hid (RunAt p l k s fed arr pas ovr) ∧ Box wr D s.cells ∧ Below D W wr) (fun _ _ _ _ i _ => n - (intOf i).toNat)
  case atStart => exact ⟨0, _, 0, 0, 0, 0, by omega, rfl, rfl, rfl, rfl, rfl, run_begin l hk0.out, SX, Below.refl _ _⟩
  case round =>
    obtain ⟨k, s, fed, arr, pas, ovr, hk, rfl, rfl, rfl, rfl, rfl, R, SX', hb⟩ := hrel
    have X0' := X0.keep (by omega) hb
    have X1' := X1.keep (by omega) hb
    have hbnd := R.out
    have hb0 := hbnd.fed0
    have hb1 := hbnd.arr0
    have hb2 := hbnd.pas0
    have hb3 := hbnd.ovr0
    obtain ⟨hl, _, _, _, _, _⟩ := Pl.hasB_bd hbnd.has
    have hBr : Below w.heap.size w wr := hB.trans (hb.mono hD)
    clear hbnd
    by_cases hlt : k < n
    · have hkl : k < l.length := by rw [hn.out]; exact hlt
      obtain ⟨b, off, rfl, hbw, hcs⟩ := (hL.out).shock (Nat.lt_of_le_of_lt (Nat.zero_le _) hkl)
      have hnow := run_now R.out HV.out hkl
      have hstep := fun hc hg => run_step (code := code) R.out HV.out hkl hc hg
      have q0 := (hBr.cell hbw).trans (hcs k hkl).1
      have q1 := (hBr.cell hbw).trans (hcs k hkl).2
      obtain ⟨x, hx⟩ : ∃ x, l[k] = x := ⟨_, rfl⟩
      rw [hx] at hnow hstep q0 q1
      have HNOW := Lib.hid hnow
      have HSTEP := Lib.hid hstep
      have HCS := Lib.hid hcs
      clear hnow hstep hx hcs
      have NX : Hid (∃ t o er, nextT p code s x = (t, o, er)) := ⟨_, _, _, rfl⟩
      have hC4 : CodeAt (wr.alloc (.cells #[.int .i64 x.feed, .int .i64 x.msg] 41)) (wr.alloc (.cells #[.int .i64 x.feed, .int .i64 x.msg] 41)).heap.size V code := (hC.out.below (hBr.alloc hBr.size _)).more (hBr.alloc hBr.size _).size
      have HC4 := Lib.hid hC4
      clear hC4
      have a0 : wr.cell? ⟨w.heap.size, 0, none⟩ = some (.int .i64 p.top) := X0'.cell 0
      have a1 : wr.cell? ⟨w.heap.size, 1, none⟩ = some (.int .i64 p.bank) := X0'.cell 1
      have a2 : wr.cell? ⟨w.heap.size, 2, none⟩ = some (.int .i64 p.siphon) := X0'.cell 2
      have a3 : wr.cell? ⟨w.heap.size, 3, none⟩ = some (.int .i64 p.start) := X0'.cell 3
      have a4 : wr.cell? ⟨w.heap.size, 4, none⟩ = some (.int .i64 p.positions) := X0'.cell 4
      have a5 : wr.cell? ⟨w.heap.size, 5, none⟩ = some (.int .i64 p.rate) := X0'.cell 5
      have a6 : wr.cell? ⟨w.heap.size, 6, none⟩ = some (.int .i64 p.step) := X0'.cell 6
      have a7 : wr.cell? ⟨w.heap.size, 7, none⟩ = some (.int .i64 p.pass) := X0'.cell 7
      have a8 : wr.cell? ⟨w.heap.size, 8, none⟩ = some (.int .i64 p.feed) := X0'.cell 8
      have a9 : wr.cell? ⟨w.heap.size, 9, none⟩ = some (.int .i64 p.pipe) := X0'.cell 9
      have a10 : wr.cell? ⟨w.heap.size, 10, none⟩ = some (.int .i64 p.orders) := X0'.cell 10
      have a11 : wr.cell? ⟨w.heap.size, 11, none⟩ = some (.int .i64 p.age) := X0'.cell 11
      have az : w.heap.size < wr.heap.size := X0'.lt
      have v0 : wr.cell? ⟨w.heap.size + 1, 0, none⟩ = some V := X1'.cell 0
      have vz : w.heap.size + 1 < wr.heap.size := X1'.lt
      have s0' : wr.cell? ⟨D, 0, none⟩ = some (.int .i64 s.level) := SX'.cell 0
      have s1' : wr.cell? ⟨D, 1, none⟩ = some (.int .i64 s.position) := SX'.cell 1
      have s2' : wr.cell? ⟨D, 2, none⟩ = some (.int .i64 s.p0) := SX'.cell 2
      have s3' : wr.cell? ⟨D, 3, none⟩ = some (.int .i64 s.p1) := SX'.cell 3
      have s4' : wr.cell? ⟨D, 4, none⟩ = some (.int .i64 s.order) := SX'.cell 4
      have s5' : wr.cell? ⟨D, 5, none⟩ = some (.int .i64 s.age) := SX'.cell 5
      have sz : D < wr.heap.size := SX'.lt
      rcases hch : chosenB p x with _ | _
      · have hnb : ∃ er, (er == (0 : Int)) = false ∧ (er != (0 : Int)) = true ∧ nextT p code s x = (St.zero, 0, er) := by
          rcases next_error (p := p) (code := code) (s := s) (x := x) with ⟨er, h0, he⟩ | ⟨_, _, _, h4, _⟩
          · exact ⟨er, by simp [h0], by simp [h0], he⟩
          · rw [hch] at h4; cases h4
        obtain ⟨er, _h1, _h2, he⟩ := hnb
        have HE := Lib.hid he
        have HCH := Lib.hid hch
        clear he hch
        go_wp2_with fail
        refine (next_is HE HC4.out).mono ?_
        rintro e w5 ⟨rfl, hb5⟩
        clear a0 a1 a2 a3 a4 a5 a6 a7 a8 a9 a10 a11 az v0 vz s0' s1' s2' s3' s4' s5' sz q0 q1
        have Y0 := (X0'.alloc (.cells #[.int .i64 x.feed, .int .i64 x.msg] 41)).later hb5
        have Y1 := (X1'.alloc (.cells #[.int .i64 x.feed, .int .i64 x.msg] 41)).later hb5
        have YS := (SX'.alloc (.cells #[.int .i64 x.feed, .int .i64 x.msg] 41)).later hb5
        have XB := (Box.new wr [.int .i64 x.feed, .int .i64 x.msg] 41).later hb5
        have hB5 := (hBr.alloc hBr.size (.cells #[.int .i64 x.feed, .int .i64 x.msg] 41)).trans (hb5.mono (hBr.alloc hBr.size (.cells #[.int .i64 x.feed, .int .i64 x.msg] 41)).size)
        have hD5 := (hb.alloc (Nat.le_of_lt SX'.lt) (.cells #[.int .i64 x.feed, .int .i64 x.msg] 41)).trans (hb5.mono (by have := SX'.lt; simp; omega))
        have hDz : D ≤ w5.heap.size := Nat.le_of_lt YS.lt
        clear hb5 HC4 NX
        have a0 : w5.cell? ⟨w.heap.size, 0, none⟩ = some (.int .i64 p.top) := Y0.cell 0
        have a1 : w5.cell? ⟨w.heap.size, 1, none⟩ = some (.int .i64 p.bank) := Y0.cell 1
        have a2 : w5.cell? ⟨w.heap.size, 2, none⟩ = some (.int .i64 p.siphon) := Y0.cell 2
        have a3 : w5.cell? ⟨w.heap.size, 3, none⟩ = some (.int .i64 p.start) := Y0.cell 3
        have a4 : w5.cell? ⟨w.heap.size, 4, none⟩ = some (.int .i64 p.positions) := Y0.cell 4
        have a5 : w5.cell? ⟨w.heap.size, 5, none⟩ = some (.int .i64 p.rate) := Y0.cell 5
        have a6 : w5.cell? ⟨w.heap.size, 6, none⟩ = some (.int .i64 p.step) := Y0.cell 6
        have a7 : w5.cell? ⟨w.heap.size, 7, none⟩ = some (.int .i64 p.pass) := Y0.cell 7
        have a8 : w5.cell? ⟨w.heap.size, 8, none⟩ = some (.int .i64 p.feed) := Y0.cell 8
        have a9 : w5.cell? ⟨w.heap.size, 9, none⟩ = some (.int .i64 p.pipe) := Y0.cell 9
        have a10 : w5.cell? ⟨w.heap.size, 10, none⟩ = some (.int .i64 p.orders) := Y0.cell 10
        have a11 : w5.cell? ⟨w.heap.size, 11, none⟩ = some (.int .i64 p.age) := Y0.cell 11
        have az : w.heap.size < w5.heap.size := Y0.lt
        have x0 : w5.cell? ⟨wr.heap.size, 0, none⟩ = some (.int .i64 x.feed) := XB.cell 0
        have x1 : w5.cell? ⟨wr.heap.size, 1, none⟩ = some (.int .i64 x.msg) := XB.cell 1
        have xz : wr.heap.size < w5.heap.size := XB.lt
        go_wp2_with fail
        refine (chosen_at HCH _).mono ?_
        rintro e w6 ⟨rfl, hb6⟩
        go_wp2
        go_ret
        exact ⟨rfl, (hB5.alloc hB5.size _).trans (hb6.mono (hB5.alloc hB5.size _).size)⟩
      · rcases gateT_two code with ⟨hg, hgb⟩ | hg
        · have hck := Lib.hid (HSTEP.out hch hgb)
          have he : nextT p code s x = (stepT p code s x, outT p code s x, 0) := by rw [nextT, if_pos hk0.out, if_pos hg, if_pos R.out.has, if_pos hch]
          have Z := stepped (code := code) (small_of HV.out R.out.has hch) hgb
          have zl := Z.level
          have zo := Z.out
          have zm := Z.most
          have zf := Z.fed
          have xf := (inI_yes (by have := hch; simp only [chosenB, Bool.and_eq_true] at this; exact this.1) : 0 ≤ x.feed ∧ x.feed ≤ p.feed)
          have hpf := HV.out.feed
          clear Z hg
          obtain ⟨t, ht⟩ : ∃ t, stepT p code s x = t := ⟨_, rfl⟩
          obtain ⟨o, ho⟩ : ∃ o, outT p code s x = o := ⟨_, rfl⟩
          obtain ⟨f, hf'⟩ : ∃ f, (fedT p s x).1 = f := ⟨_, rfl⟩
          rw [ht, ho] at he
          rw [ht, ho, hf'] at hck
          rw [ht] at zl zm
          rw [ho, ht] at zo
          rw [hf'] at zf
          rw [hf'] at HNOW
          have HE := Lib.hid he
          clear he ht ho hf' hch hgb
          obtain ⟨R2, z0⟩ := hck.out
          have rs := R2.sum
          have rb := R2.bal
          obtain ⟨tl, _, ⟨tp0, tp1⟩, ⟨tp2, tp3⟩, _, _⟩ := Pl.hasB_bd R2.has
          have s1 : (fed + x.feed != arr + f + t.p0 + t.p1) = false := by simp; omega
          have tp4 : t.p0 ≤ 15 := by split at tp1 <;> omega
          have tp5 : t.p1 ≤ 15 := by split at tp3 <;> omega
          have HR2 := Lib.hid R2
          clear R2 hck rs tp1 tp3
          go_wp2_with fail
          refine (next_is HE HC4.out).mono ?_
          rintro e w5 ⟨rfl, hb5⟩
          clear a0 a1 a2 a3 a4 a5 a6 a7 a8 a9 a10 a11 az v0 vz s0' s1' s2' s3' s4' s5' sz q0 q1
          have Y0 := (X0'.alloc (.cells #[.int .i64 x.feed, .int .i64 x.msg] 41)).later hb5
          have Y1 := (X1'.alloc (.cells #[.int .i64 x.feed, .int .i64 x.msg] 41)).later hb5
          have YS := (SX'.alloc (.cells #[.int .i64 x.feed, .int .i64 x.msg] 41)).later hb5
          have XB := (Box.new wr [.int .i64 x.feed, .int .i64 x.msg] 41).later hb5
          have hB5 := (hBr.alloc hBr.size (.cells #[.int .i64 x.feed, .int .i64 x.msg] 41)).trans (hb5.mono (hBr.alloc hBr.size (.cells #[.int .i64 x.feed, .int .i64 x.msg] 41)).size)
          have hD5 := (hb.alloc (Nat.le_of_lt SX'.lt) (.cells #[.int .i64 x.feed, .int .i64 x.msg] 41)).trans (hb5.mono (by have := SX'.lt; simp; omega))
          have hDz : D ≤ w5.heap.size := Nat.le_of_lt YS.lt
          clear hb5 HC4 NX
          have a0 : w5.cell? ⟨w.heap.size, 0, none⟩ = some (.int .i64 p.top) := Y0.cell 0
          have a1 : w5.cell? ⟨w.heap.size, 1, none⟩ = some (.int .i64 p.bank) := Y0.cell 1
          have a2 : w5.cell? ⟨w.heap.size, 2, none⟩ = some (.int .i64 p.siphon) := Y0.cell 2
          have a3 : w5.cell? ⟨w.heap.size, 3, none⟩ = some (.int .i64 p.start) := Y0.cell 3
          have a4 : w5.cell? ⟨w.heap.size, 4, none⟩ = some (.int .i64 p.positions) := Y0.cell 4
          have a5 : w5.cell? ⟨w.heap.size, 5, none⟩ = some (.int .i64 p.rate) := Y0.cell 5
          have a6 : w5.cell? ⟨w.heap.size, 6, none⟩ = some (.int .i64 p.step) := Y0.cell 6
          have a7 : w5.cell? ⟨w.heap.size, 7, none⟩ = some (.int .i64 p.pass) := Y0.cell 7
          have a8 : w5.cell? ⟨w.heap.size, 8, none⟩ = some (.int .i64 p.feed) := Y0.cell 8
          have a9 : w5.cell? ⟨w.heap.size, 9, none⟩ = some (.int .i64 (P : Int)) := by rw [← HP.out]; exact Y0.cell 9
          have a10 : w5.cell? ⟨w.heap.size, 10, none⟩ = some (.int .i64 p.orders) := Y0.cell 10
          have a11 : w5.cell? ⟨w.heap.size, 11, none⟩ = some (.int .i64 p.age) := Y0.cell 11
          have az : w.heap.size < w5.heap.size := Y0.lt
          have x0 : w5.cell? ⟨wr.heap.size, 0, none⟩ = some (.int .i64 x.feed) := XB.cell 0
          have x1 : w5.cell? ⟨wr.heap.size, 1, none⟩ = some (.int .i64 x.msg) := XB.cell 1
          have xz : wr.heap.size < w5.heap.size := XB.lt
          have s0' : w5.cell? ⟨D, 0, none⟩ = some (.int .i64 s.level) := YS.cell 0
          have f0' : w5.frozen? ⟨D, 0, none⟩ = false := YS.free 0
          have s1' : w5.cell? ⟨D, 1, none⟩ = some (.int .i64 s.position) := YS.cell 1
          have f1' : w5.frozen? ⟨D, 1, none⟩ = false := YS.free 1
          have s2' : w5.cell? ⟨D, 2, none⟩ = some (.int .i64 s.p0) := YS.cell 2
          have f2' : w5.frozen? ⟨D, 2, none⟩ = false := YS.free 2
          have s3' : w5.cell? ⟨D, 3, none⟩ = some (.int .i64 s.p1) := YS.cell 3
          have f3' : w5.frozen? ⟨D, 3, none⟩ = false := YS.free 3
          have s4' : w5.cell? ⟨D, 4, none⟩ = some (.int .i64 s.order) := YS.cell 4
          have f4' : w5.frozen? ⟨D, 4, none⟩ = false := YS.free 4
          have s5' : w5.cell? ⟨D, 5, none⟩ = some (.int .i64 s.age) := YS.cell 5
          have f5' : w5.frozen? ⟨D, 5, none⟩ = false := YS.free 5
          have sz : D < w5.heap.size := YS.lt
          have nowp : P ≤ k → ∀ h : k - P < l.length, f = (l[k - P]).feed := by
            intro h1 h2
            have h3 := HNOW.out.1 (by rw [HP.out]; exact Int.ofNat_le.2 h1)
            simp only [HP.out, Int.toNat_natCast] at h3
            exact h3 h2
          have nown : ¬ P ≤ k → f = 0 := fun h1 => HNOW.out.2 (by have := HP.out; omega)
          have NOWP := Lib.hid nowp
          have NOWN := Lib.hid nown
          clear HNOW nowp nown
          by_cases hlo : 0 < s.level + f - o - t.level
          · have b1 : (p.start + (arr + f) != t.level + (pas + o) + (ovr + (s.level + f - o - t.level))) = false := by simp; omega
            clear rb
            by_cases hPk : P ≤ k
            · have hkP : k - P < l.length := by omega
              have hkN : k - P < n := by omega
              have bz : b < w5.heap.size := by have := hB5.size; omega
              have q2 := (hB5.cell hbw).trans (HCS.out (k - P) hkP).1
              rw [show (l[k - P]).feed = f from (NOWP.out hPk hkP).symm] at q2
              go_wp2
              go_roundw
              case rel => exact ⟨k + 1, t, _, _, _, ovr + (s.level + f - o - t.level), by omega, rfl, rfl, rfl, rfl, by go_num, HR2, (((((((YS).set 0 _).set 1 _).set 2 _).set 3 _).set 4 _).set 5 _).alloc _, (((((((hD5).setCell (p := ⟨D, 0, none⟩) (Nat.le_refl D) _).setCell (p := ⟨D, 1, none⟩) (Nat.le_refl D) _).setCell (p := ⟨D, 2, none⟩) (Nat.le_refl D) _).setCell (p := ⟨D, 3, none⟩) (Nat.le_refl D) _).setCell (p := ⟨D, 4, none⟩) (Nat.le_refl D) _).setCell (p := ⟨D, 5, none⟩) (Nat.le_refl D) _).alloc (by simpa using hDz) _⟩
              case measure => simp [intOf]; omega
            · have hf0 := NOWN.out hPk
              clear NOWN NOWP
              subst hf0
              simp only [Int.add_zero] at HR2 s1 b1 hlo z0
              go_wp2
              go_roundw
              case rel => exact ⟨k + 1, t, _, _, _, ovr + (s.level - o - t.level), by omega, rfl, rfl, rfl, rfl, by go_num, HR2, (((((((YS).set 0 _).set 1 _).set 2 _).set 3 _).set 4 _).set 5 _).alloc _, (((((((hD5).setCell (p := ⟨D, 0, none⟩) (Nat.le_refl D) _).setCell (p := ⟨D, 1, none⟩) (Nat.le_refl D) _).setCell (p := ⟨D, 2, none⟩) (Nat.le_refl D) _).setCell (p := ⟨D, 3, none⟩) (Nat.le_refl D) _).setCell (p := ⟨D, 4, none⟩) (Nat.le_refl D) _).setCell (p := ⟨D, 5, none⟩) (Nat.le_refl D) _).alloc (by simpa using hDz) _⟩
              case measure => simp [intOf]; omega
          · have hl0 : s.level + f - o - t.level = 0 := by omega
            have HR3 : Hid (RunAt p l (k + 1) t (fed + x.feed) (arr + f) (pas + o) ovr) := by
              have h := HR2.out
              rw [hl0, Int.add_zero] at h
              exact h
            have b1 : (p.start + (arr + f) != t.level + (pas + o) + ovr) = false := by simp; omega
            clear rb hl0 HR2
            by_cases hPk : P ≤ k
            · have hkP : k - P < l.length := by omega
              have hkN : k - P < n := by omega
              have bz : b < w5.heap.size := by have := hB5.size; omega
              have q2 := (hB5.cell hbw).trans (HCS.out (k - P) hkP).1
              rw [show (l[k - P]).feed = f from (NOWP.out hPk hkP).symm] at q2
              go_wp2
              go_roundw
              case rel => exact ⟨k + 1, t, _, _, _, ovr, by omega, rfl, rfl, rfl, rfl, by go_num, HR3, (((((((YS).set 0 _).set 1 _).set 2 _).set 3 _).set 4 _).set 5 _).alloc _, (((((((hD5).setCell (p := ⟨D, 0, none⟩) (Nat.le_refl D) _).setCell (p := ⟨D, 1, none⟩) (Nat.le_refl D) _).setCell (p := ⟨D, 2, none⟩) (Nat.le_refl D) _).setCell (p := ⟨D, 3, none⟩) (Nat.le_refl D) _).setCell (p := ⟨D, 4, none⟩) (Nat.le_refl D) _).setCell (p := ⟨D, 5, none⟩) (Nat.le_refl D) _).alloc (by simpa using hDz) _⟩
              case measure => simp [intOf]; omega
            · have hf0 := NOWN.out hPk
              clear NOWN NOWP
              subst hf0
              simp only [Int.add_zero] at HR3 s1 b1 hlo z0
              go_wp2
              go_roundw
              case rel => exact ⟨k + 1, t, _, _, _, ovr, by omega, rfl, rfl, rfl, rfl, by go_num, HR3, (((((((YS).set 0 _).set 1 _).set 2 _).set 3 _).set 4 _).set 5 _).alloc _, (((((((hD5).setCell (p := ⟨D, 0, none⟩) (Nat.le_refl D) _).setCell (p := ⟨D, 1, none⟩) (Nat.le_refl D) _).setCell (p := ⟨D, 2, none⟩) (Nat.le_refl D) _).setCell (p := ⟨D, 3, none⟩) (Nat.le_refl D) _).setCell (p := ⟨D, 4, none⟩) (Nat.le_refl D) _).setCell (p := ⟨D, 5, none⟩) (Nat.le_refl D) _).alloc (by simpa using hDz) _⟩
              case measure => simp [intOf]; omega
        · have he : nextT p code s x = (St.zero, 0, 310) := by rw [nextT, if_pos hk0.out, if_neg (by omega), hg]
          have HE := Lib.hid he
          have HCH := Lib.hid hch
          have HG := Lib.hid hg
          clear he hch hg
          go_wp2_with fail
          refine (next_is HE HC4.out).mono ?_
          rintro e w5 ⟨rfl, hb5⟩
          clear a0 a1 a2 a3 a4 a5 a6 a7 a8 a9 a10 a11 az v0 vz s0' s1' s2' s3' s4' s5' sz q0 q1
          have Y0 := (X0'.alloc (.cells #[.int .i64 x.feed, .int .i64 x.msg] 41)).later hb5
          have Y1 := (X1'.alloc (.cells #[.int .i64 x.feed, .int .i64 x.msg] 41)).later hb5
          have YS := (SX'.alloc (.cells #[.int .i64 x.feed, .int .i64 x.msg] 41)).later hb5
          have XB := (Box.new wr [.int .i64 x.feed, .int .i64 x.msg] 41).later hb5
          have hB5 := (hBr.alloc hBr.size (.cells #[.int .i64 x.feed, .int .i64 x.msg] 41)).trans (hb5.mono (hBr.alloc hBr.size (.cells #[.int .i64 x.feed, .int .i64 x.msg] 41)).size)
          have hD5 := (hb.alloc (Nat.le_of_lt SX'.lt) (.cells #[.int .i64 x.feed, .int .i64 x.msg] 41)).trans (hb5.mono (by have := SX'.lt; simp; omega))
          have hDz : D ≤ w5.heap.size := Nat.le_of_lt YS.lt
          clear hb5 HC4 NX
          have a0 : w5.cell? ⟨w.heap.size, 0, none⟩ = some (.int .i64 p.top) := Y0.cell 0
          have a1 : w5.cell? ⟨w.heap.size, 1, none⟩ = some (.int .i64 p.bank) := Y0.cell 1
          have a2 : w5.cell? ⟨w.heap.size, 2, none⟩ = some (.int .i64 p.siphon) := Y0.cell 2
          have a3 : w5.cell? ⟨w.heap.size, 3, none⟩ = some (.int .i64 p.start) := Y0.cell 3
          have a4 : w5.cell? ⟨w.heap.size, 4, none⟩ = some (.int .i64 p.positions) := Y0.cell 4
          have a5 : w5.cell? ⟨w.heap.size, 5, none⟩ = some (.int .i64 p.rate) := Y0.cell 5
          have a6 : w5.cell? ⟨w.heap.size, 6, none⟩ = some (.int .i64 p.step) := Y0.cell 6
          have a7 : w5.cell? ⟨w.heap.size, 7, none⟩ = some (.int .i64 p.pass) := Y0.cell 7
          have a8 : w5.cell? ⟨w.heap.size, 8, none⟩ = some (.int .i64 p.feed) := Y0.cell 8
          have a9 : w5.cell? ⟨w.heap.size, 9, none⟩ = some (.int .i64 p.pipe) := Y0.cell 9
          have a10 : w5.cell? ⟨w.heap.size, 10, none⟩ = some (.int .i64 p.orders) := Y0.cell 10
          have a11 : w5.cell? ⟨w.heap.size, 11, none⟩ = some (.int .i64 p.age) := Y0.cell 11
          have az : w.heap.size < w5.heap.size := Y0.lt
          have x0 : w5.cell? ⟨wr.heap.size, 0, none⟩ = some (.int .i64 x.feed) := XB.cell 0
          have x1 : w5.cell? ⟨wr.heap.size, 1, none⟩ = some (.int .i64 x.msg) := XB.cell 1
          have xz : wr.heap.size < w5.heap.size := XB.lt
          have v0 : w5.cell? ⟨w.heap.size + 1, 0, none⟩ = some V := Y1.cell 0
          have vz : w.heap.size + 1 < w5.heap.size := Y1.lt
          go_wp2_with fail
          refine (chosen_at HCH _).mono ?_
          rintro e w6 ⟨rfl, hb6⟩
          have Y1 := (Y1.alloc (.cells #[.int .i64 0, .int .i64 0, .int .i64 0, .int .i64 0, .int .i64 0, .int .i64 0] 26)).later hb6
          have hB6 := (hB5.alloc hB5.size (.cells #[.int .i64 0, .int .i64 0, .int .i64 0, .int .i64 0, .int .i64 0, .int .i64 0] 26)).trans (hb6.mono (hB5.alloc hB5.size _).size)
          clear v0 vz
          have v0 : w6.cell? ⟨w.heap.size + 1, 0, none⟩ = some V := Y1.cell 0
          have vz : w.heap.size + 1 < w6.heap.size := Y1.lt
          go_wp2_with fail
          refine (rgcheck_at HG ((hC.out.below hB6).more hB6.size)).mono ?_
          rintro e w7 ⟨rfl, hb7⟩
          go_wp2
          go_ret
          exact ⟨rfl, hB6.trans (hb7.mono hB6.size)⟩
    · obtain rfl : k = n := by omega
      go_wp2
      go_ret
      exact ⟨rfl, hBr⟩

theorem law_PlantPipe (p : Pl) (code : List Ln) (V : Value) (l : List Sh) (v : Value) (w : World) (hC : CodeAt w w.heap.size V code) (hL : ShocksAt w w.heap.size v l) : Calls Try.prog 6 #[p.v, .agg #[V], v] w fun e w' => e = .returned (.bool true) ∧ Below w.heap.size w w' := by
  obtain ⟨A, c, rfl, _⟩ := hL.form
  rcases hf : fewB code with _ | _
  · exact law6_no p code V l A l.length c w hC hL rfl hf
  · by_cases hn : 100 < l.length
    · exact law6_long p code V l A l.length c w hC hL rfl hf (by omega)
    · by_cases hk : p.checkT = 0
      · exact law6_run p code V l A l.length c w hC hL rfl hf (by omega) hk (by rw [Hid, Pl.beginT, if_pos hk])
      · exact law6_bad p code V l A l.length c w hC hL rfl hf (by omega) p.checkT (by rw [Hid, Pl.beginT, if_neg hk]) (by simp [hk]) (by simp [hk])

end Go.Proofs.Ytakjalapninndaa
