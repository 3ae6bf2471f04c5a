/- Check of the reference of chapter 33. (Printed by gen_bu.py.) No condition. -/
import Derived.Test.YtcjcjkomcolgeaaQBT
import Derived.Test.YtcjcjkomcolgeaaQBO
set_option linter.unusedVariables false
set_option linter.unusedSimpArgs false
namespace Go.Proofs.Ytcjcjkomcolgeaa
open Go.RowKit

theorem ownSt_cells {w : World} {base n c : Nat} {A : Option Addr} {l : List St} (h : OwnSt w base (.slice A n c) l) {k : Nat} (hk : k < l.length) :
    ∃ g, A = some ⟨g, 0, none⟩ ∧ base ≤ g ∧ g < w.heap.size ∧ w.cell? ⟨g, k * 6, none⟩ = some (.int .i64 (l[k]).level) ∧ w.cell? ⟨g, k * 6 + 1, none⟩ = some (.int .i64 (l[k]).position) ∧ w.cell? ⟨g, k * 6 + 2, none⟩ = some (.int .i64 (l[k]).p0) ∧ w.cell? ⟨g, k * 6 + 3, none⟩ = some (.int .i64 (l[k]).p1) ∧ w.cell? ⟨g, k * 6 + 4, none⟩ = some (.int .i64 (l[k]).order) ∧ w.cell? ⟨g, k * 6 + 5, none⟩ = some (.int .i64 (l[k]).age) := by
  obtain ⟨A', c', e, h1⟩ := h.sl (fun _ => rfl)
  cases e
  obtain ⟨g, rfl, hb, hg, h2⟩ := h1 k hk
  exact ⟨g, rfl, hb, hg, h2 0 (by omega), h2 1 (by omega), h2 2 (by omega), h2 3 (by omega), h2 4 (by omega), h2 5 (by omega)⟩
theorem ownSh_cells {w : World} {base n c : Nat} {A : Option Addr} {l : List Sh} (h : OwnSh w base (.slice A n c) l) {k : Nat} (hk : k < l.length) :
    ∃ g, A = some ⟨g, 0, none⟩ ∧ base ≤ g ∧ g < w.heap.size ∧ w.cell? ⟨g, k * 2, none⟩ = some (.int .i64 (l[k]).feed) ∧ w.cell? ⟨g, k * 2 + 1, none⟩ = some (.int .i64 (l[k]).msg) := by
  obtain ⟨A', c', e, h1⟩ := h.sl (fun _ => rfl)
  cases e
  obtain ⟨g, rfl, hb, hg, h2⟩ := h1 k hk
  exact ⟨g, rfl, hb, hg, h2 0 (by omega), h2 1 (by omega)⟩
theorem ownE_form {α : Type} {enc : α → List Value} {size : Nat} {w : World} {base e : Nat} {v : Value} {l : List α} (h : OwnE enc size w base e v l) (hs : ∀ x, (enc x).length = size) : ∃ A c, v = .slice A l.length c := by
  obtain ⟨A, c, e, _⟩ := h.sl hs
  exact ⟨A, c, e⟩
theorem take_none {α : Type} {l : List α} {f : α → Prop} {k : Nat} (hk : k < l.length) (h : ∀ s ∈ l.take k, f s) (hx : f l[k]) : ∀ s ∈ l.take (k + 1), f s := by
  rw [List.take_succ_eq_append_getElem hk]
  intro s hs
  rcases List.mem_append.1 hs with h1 | h1
  · exact h s h1
  · rw [List.mem_singleton.1 h1]; exact hx
theorem take_pre {α : Type} {l : List α} {k : Nat} (hk : k < l.length) : l.take k ++ [l[k]] <+: l := by
  rw [← List.take_succ_eq_append_getElem hk]
  exact List.take_prefix _ _
theorem find_none {p : Pl} {c : List Ln} {b : List Iq} {s : St} (hi : inB b s = true) (hs : p.safeB s = true) (h : ∀ y ∈ p.shocks, inB b (nextT p c s y).1 = true) : flawAt p c b s = none := flaw_none.2 fun _ => ⟨hs, h⟩
theorem find_some {p : Pl} {c : List Ln} {b : List Iq} {s : St} {k : Nat} (hk : k < p.shocks.length) (hi : inB b s = true) (hs : p.safeB s = true) (h : ∀ y ∈ p.shocks.take k, inB b (nextT p c s y).1 = true) (hx : inB b (nextT p c s p.shocks[k]).1 = false) : flawAt p c b s = some ⟨3, s, p.shocks[k]⟩ := by
  rw [flawAt, if_pos hi, if_pos hs, find_pre (take_pre hk) (fun y hy => by rw [h y hy]; rfl) (by rw [hx]; rfl)]
  rfl

set_option maxRecDepth 100000 in
set_option maxHeartbeats 4000000 in
theorem rbCert_0 (p : Pl) (c : List Ln) (b : List Iq) (A1 A2 : Option Addr) (m k m2 k2 : Nat) (w : World) (er : Int) (h : Hid (askT p c = er)) (h0 : Hid (er ≠ 0)) (hC : Hid (CodeAt w w.heap.size (.slice A2 m2 k2) c)) (_hQ : Hid (BarAt w w.heap.size (.slice A1 m k) b)) :
    Calls Try.prog 64 #[p.v, .agg #[.slice A2 m2 k2], .slice A1 m k] w fun e w' => e = .returned (.tuple #[.bool false, Fw.zero.v, .int .i64 er]) ∧ Below w.heap.size w w' := by
  have hd : (er != 0) = true := by simp [h0.out]
  go_enter Try.func64, Try.ntmps64
  go_upto_region 1 with fail
  have hB := (((Below.refl w.heap.size w).alloc (by simp <;> omega) (.cells #[.int .i64 p.top, .int .i64 p.bank, .int .i64 p.siphon, .int .i64 p.start, .int .i64 p.positions, .int .i64 p.rate, .int .i64 p.step, .int .i64 p.pass, .int .i64 p.feed, .int .i64 p.pipe, .int .i64 p.orders, .int .i64 p.age] 55)).alloc (by simp <;> omega) (.cells #[.slice A2 m2 k2] 63)).alloc (by simp <;> omega) (.cells #[.int .i64 0, .int .i64 0, .int .i64 0, .int .i64 0, .int .i64 0, .int .i64 0, .int .i64 0, .int .i64 0, .int .i64 0] 78)
  have X3 := ((Box.newAt (w := w) (n := w.heap.size) [.int .i64 p.top, .int .i64 p.bank, .int .i64 p.siphon, .int .i64 p.start, .int .i64 p.positions, .int .i64 p.rate, .int .i64 p.step, .int .i64 p.pass, .int .i64 p.feed, .int .i64 p.pipe, .int .i64 p.orders, .int .i64 p.age] 55 (by simp)).alloc (.cells #[.slice A2 m2 k2] 63)).alloc (.cells #[.int .i64 0, .int .i64 0, .int .i64 0, .int .i64 0, .int .i64 0, .int .i64 0, .int .i64 0, .int .i64 0, .int .i64 0] 78)
  have X4 := (Box.newAt (w := (w.alloc (.cells #[.int .i64 p.top, .int .i64 p.bank, .int .i64 p.siphon, .int .i64 p.start, .int .i64 p.positions, .int .i64 p.rate, .int .i64 p.step, .int .i64 p.pass, .int .i64 p.feed, .int .i64 p.pipe, .int .i64 p.orders, .int .i64 p.age] 55))) (n := w.heap.size + 1) [.slice A2 m2 k2] 63 (by simp)).alloc (.cells #[.int .i64 0, .int .i64 0, .int .i64 0, .int .i64 0, .int .i64 0, .int .i64 0, .int .i64 0, .int .i64 0, .int .i64 0] 78)
  have X7 := Box.newAt (w := ((w.alloc (.cells #[.int .i64 p.top, .int .i64 p.bank, .int .i64 p.siphon, .int .i64 p.start, .int .i64 p.positions, .int .i64 p.rate, .int .i64 p.step, .int .i64 p.pass, .int .i64 p.feed, .int .i64 p.pipe, .int .i64 p.orders, .int .i64 p.age] 55)).alloc (.cells #[.slice A2 m2 k2] 63))) (n := w.heap.size + 1 + 1) [.int .i64 0, .int .i64 0, .int .i64 0, .int .i64 0, .int .i64 0, .int .i64 0, .int .i64 0, .int .i64 0, .int .i64 0] 78 (by simp)
  generalize (((w.alloc (.cells #[.int .i64 p.top, .int .i64 p.bank, .int .i64 p.siphon, .int .i64 p.start, .int .i64 p.positions, .int .i64 p.rate, .int .i64 p.step, .int .i64 p.pass, .int .i64 p.feed, .int .i64 p.pipe, .int .i64 p.orders, .int .i64 p.age] 55)).alloc (.cells #[.slice A2 m2 k2] 63)).alloc (.cells #[.int .i64 0, .int .i64 0, .int .i64 0, .int .i64 0, .int .i64 0, .int .i64 0, .int .i64 0, .int .i64 0, .int .i64 0] 78)) = w0 at X3 X4 X7 hB ⊢
  have X3c0 : w0.cell? ⟨w.heap.size, 0, none⟩ = some (.int .i64 p.top) := X3.cell 0
  have X3c1 : w0.cell? ⟨w.heap.size, 1, none⟩ = some (.int .i64 p.bank) := X3.cell 1
  have X3c2 : w0.cell? ⟨w.heap.size, 2, none⟩ = some (.int .i64 p.siphon) := X3.cell 2
  have X3c3 : w0.cell? ⟨w.heap.size, 3, none⟩ = some (.int .i64 p.start) := X3.cell 3
  have X3c4 : w0.cell? ⟨w.heap.size, 4, none⟩ = some (.int .i64 p.positions) := X3.cell 4
  have X3c5 : w0.cell? ⟨w.heap.size, 5, none⟩ = some (.int .i64 p.rate) := X3.cell 5
  have X3c6 : w0.cell? ⟨w.heap.size, 6, none⟩ = some (.int .i64 p.step) := X3.cell 6
  have X3c7 : w0.cell? ⟨w.heap.size, 7, none⟩ = some (.int .i64 p.pass) := X3.cell 7
  have X3c8 : w0.cell? ⟨w.heap.size, 8, none⟩ = some (.int .i64 p.feed) := X3.cell 8
  have X3c9 : w0.cell? ⟨w.heap.size, 9, none⟩ = some (.int .i64 p.pipe) := X3.cell 9
  have X3c10 : w0.cell? ⟨w.heap.size, 10, none⟩ = some (.int .i64 p.orders) := X3.cell 10
  have X3c11 : w0.cell? ⟨w.heap.size, 11, none⟩ = some (.int .i64 p.age) := X3.cell 11
  have X4c0 : w0.cell? ⟨w.heap.size + 1, 0, none⟩ = some (.slice A2 m2 k2) := X4.cell 0
  have X3z := X3.lt
  have X4z := X4.lt
  go_wp2_with fail
  refine (rbAsk_is h (hC.out.later hB)).mono ?_
  rintro e w1 ⟨rfl, hb⟩
  have X7 := X7.later hb
  have hB := hB.trans (hb.mono hB.size)
  clear hb
  clear X3c0 X3c1 X3c2 X3c3 X3c4 X3c5 X3c6 X3c7 X3c8 X3c9 X3c10 X3c11 X4c0 X3z X4z
  have X7c0 : w1.cell? ⟨w.heap.size + 1 + 1, 0, none⟩ = some (.int .i64 0) := X7.cell 0
  have X7f0 : w1.frozen? ⟨w.heap.size + 1 + 1, 0, none⟩ = false := X7.free 0
  have X7c1 : w1.cell? ⟨w.heap.size + 1 + 1, 1, none⟩ = some (.int .i64 0) := X7.cell 1
  have X7f1 : w1.frozen? ⟨w.heap.size + 1 + 1, 1, none⟩ = false := X7.free 1
  have X7c2 : w1.cell? ⟨w.heap.size + 1 + 1, 2, none⟩ = some (.int .i64 0) := X7.cell 2
  have X7f2 : w1.frozen? ⟨w.heap.size + 1 + 1, 2, none⟩ = false := X7.free 2
  have X7c3 : w1.cell? ⟨w.heap.size + 1 + 1, 3, none⟩ = some (.int .i64 0) := X7.cell 3
  have X7f3 : w1.frozen? ⟨w.heap.size + 1 + 1, 3, none⟩ = false := X7.free 3
  have X7c4 : w1.cell? ⟨w.heap.size + 1 + 1, 4, none⟩ = some (.int .i64 0) := X7.cell 4
  have X7f4 : w1.frozen? ⟨w.heap.size + 1 + 1, 4, none⟩ = false := X7.free 4
  have X7c5 : w1.cell? ⟨w.heap.size + 1 + 1, 5, none⟩ = some (.int .i64 0) := X7.cell 5
  have X7f5 : w1.frozen? ⟨w.heap.size + 1 + 1, 5, none⟩ = false := X7.free 5
  have X7c6 : w1.cell? ⟨w.heap.size + 1 + 1, 6, none⟩ = some (.int .i64 0) := X7.cell 6
  have X7f6 : w1.frozen? ⟨w.heap.size + 1 + 1, 6, none⟩ = false := X7.free 6
  have X7c7 : w1.cell? ⟨w.heap.size + 1 + 1, 7, none⟩ = some (.int .i64 0) := X7.cell 7
  have X7f7 : w1.frozen? ⟨w.heap.size + 1 + 1, 7, none⟩ = false := X7.free 7
  have X7c8 : w1.cell? ⟨w.heap.size + 1 + 1, 8, none⟩ = some (.int .i64 0) := X7.cell 8
  have X7f8 : w1.frozen? ⟨w.heap.size + 1 + 1, 8, none⟩ = false := X7.free 8
  have X7z : w.heap.size + 1 + 1 < w1.heap.size := X7.lt
  go_wp2
  have Z7 := (((((((((X7.set 0 (.int .i64 0)).set 1 (.int .i64 0)).set 2 (.int .i64 0)).set 3 (.int .i64 0)).set 4 (.int .i64 0)).set 5 (.int .i64 0)).set 6 (.int .i64 0)).set 7 (.int .i64 0)).set 8 (.int .i64 0))
  have hB3 := (((((((((hB.setCell (p := ⟨w.heap.size + 1 + 1, 0, none⟩) (by simp <;> omega) (.int .i64 0)).setCell (p := ⟨w.heap.size + 1 + 1, 1, none⟩) (by simp <;> omega) (.int .i64 0)).setCell (p := ⟨w.heap.size + 1 + 1, 2, none⟩) (by simp <;> omega) (.int .i64 0)).setCell (p := ⟨w.heap.size + 1 + 1, 3, none⟩) (by simp <;> omega) (.int .i64 0)).setCell (p := ⟨w.heap.size + 1 + 1, 4, none⟩) (by simp <;> omega) (.int .i64 0)).setCell (p := ⟨w.heap.size + 1 + 1, 5, none⟩) (by simp <;> omega) (.int .i64 0)).setCell (p := ⟨w.heap.size + 1 + 1, 6, none⟩) (by simp <;> omega) (.int .i64 0)).setCell (p := ⟨w.heap.size + 1 + 1, 7, none⟩) (by simp <;> omega) (.int .i64 0)).setCell (p := ⟨w.heap.size + 1 + 1, 8, none⟩) (by simp <;> omega) (.int .i64 0))
  generalize (((((((((w1.setCell ⟨w.heap.size + 1 + 1, 0, none⟩ (.int .i64 0)).setCell ⟨w.heap.size + 1 + 1, 1, none⟩ (.int .i64 0)).setCell ⟨w.heap.size + 1 + 1, 2, none⟩ (.int .i64 0)).setCell ⟨w.heap.size + 1 + 1, 3, none⟩ (.int .i64 0)).setCell ⟨w.heap.size + 1 + 1, 4, none⟩ (.int .i64 0)).setCell ⟨w.heap.size + 1 + 1, 5, none⟩ (.int .i64 0)).setCell ⟨w.heap.size + 1 + 1, 6, none⟩ (.int .i64 0)).setCell ⟨w.heap.size + 1 + 1, 7, none⟩ (.int .i64 0)).setCell ⟨w.heap.size + 1 + 1, 8, none⟩ (.int .i64 0)) = W at Z7 hB3 ⊢
  have Z7c0 : W.cell? ⟨w.heap.size + 1 + 1, 0, none⟩ = some (.int .i64 0) := Z7.cell 0
  have Z7c1 : W.cell? ⟨w.heap.size + 1 + 1, 1, none⟩ = some (.int .i64 0) := Z7.cell 1
  have Z7c2 : W.cell? ⟨w.heap.size + 1 + 1, 2, none⟩ = some (.int .i64 0) := Z7.cell 2
  have Z7c3 : W.cell? ⟨w.heap.size + 1 + 1, 3, none⟩ = some (.int .i64 0) := Z7.cell 3
  have Z7c4 : W.cell? ⟨w.heap.size + 1 + 1, 4, none⟩ = some (.int .i64 0) := Z7.cell 4
  have Z7c5 : W.cell? ⟨w.heap.size + 1 + 1, 5, none⟩ = some (.int .i64 0) := Z7.cell 5
  have Z7c6 : W.cell? ⟨w.heap.size + 1 + 1, 6, none⟩ = some (.int .i64 0) := Z7.cell 6
  have Z7c7 : W.cell? ⟨w.heap.size + 1 + 1, 7, none⟩ = some (.int .i64 0) := Z7.cell 7
  have Z7c8 : W.cell? ⟨w.heap.size + 1 + 1, 8, none⟩ = some (.int .i64 0) := Z7.cell 8
  refine bodyPost_ret (v := .tuple #[.bool false, Fw.zero.v, .int .i64 er]) (by simp [results, Try.results64, go_sem, Z7c0, Z7c1, Z7c2, Z7c3, Z7c4, Z7c5, Z7c6, Z7c7, Z7c8, Fw.zero, St.zero, Sh.zero]) rfl ?_
  exact ⟨rfl, hB3⟩

set_option maxRecDepth 100000 in
set_option maxHeartbeats 4000000 in
theorem rbCert_1 (p : Pl) (c : List Ln) (b : List Iq) (A1 A2 : Option Addr) (m k m2 k2 : Nat) (w : World) (er : Int) (h : Hid (askT p c = 0)) (hb1 : Hid (barT b = er)) (h0 : Hid (er ≠ 0)) (hC : Hid (CodeAt w w.heap.size (.slice A2 m2 k2) c)) (_hQ : Hid (BarAt w w.heap.size (.slice A1 m k) b)) :
    Calls Try.prog 64 #[p.v, .agg #[.slice A2 m2 k2], .slice A1 m k] w fun e w' => e = .returned (.tuple #[.bool false, Fw.zero.v, .int .i64 er]) ∧ Below w.heap.size w w' := by
  have hd : (er != 0) = true := by simp [h0.out]
  go_enter Try.func64, Try.ntmps64
  go_upto_region 1 with fail
  have hB := (((Below.refl w.heap.size w).alloc (by simp <;> omega) (.cells #[.int .i64 p.top, .int .i64 p.bank, .int .i64 p.siphon, .int .i64 p.start, .int .i64 p.positions, .int .i64 p.rate, .int .i64 p.step, .int .i64 p.pass, .int .i64 p.feed, .int .i64 p.pipe, .int .i64 p.orders, .int .i64 p.age] 55)).alloc (by simp <;> omega) (.cells #[.slice A2 m2 k2] 63)).alloc (by simp <;> omega) (.cells #[.int .i64 0, .int .i64 0, .int .i64 0, .int .i64 0, .int .i64 0, .int .i64 0, .int .i64 0, .int .i64 0, .int .i64 0] 78)
  have X3 := ((Box.newAt (w := w) (n := w.heap.size) [.int .i64 p.top, .int .i64 p.bank, .int .i64 p.siphon, .int .i64 p.start, .int .i64 p.positions, .int .i64 p.rate, .int .i64 p.step, .int .i64 p.pass, .int .i64 p.feed, .int .i64 p.pipe, .int .i64 p.orders, .int .i64 p.age] 55 (by simp)).alloc (.cells #[.slice A2 m2 k2] 63)).alloc (.cells #[.int .i64 0, .int .i64 0, .int .i64 0, .int .i64 0, .int .i64 0, .int .i64 0, .int .i64 0, .int .i64 0, .int .i64 0] 78)
  have X4 := (Box.newAt (w := (w.alloc (.cells #[.int .i64 p.top, .int .i64 p.bank, .int .i64 p.siphon, .int .i64 p.start, .int .i64 p.positions, .int .i64 p.rate, .int .i64 p.step, .int .i64 p.pass, .int .i64 p.feed, .int .i64 p.pipe, .int .i64 p.orders, .int .i64 p.age] 55))) (n := w.heap.size + 1) [.slice A2 m2 k2] 63 (by simp)).alloc (.cells #[.int .i64 0, .int .i64 0, .int .i64 0, .int .i64 0, .int .i64 0, .int .i64 0, .int .i64 0, .int .i64 0, .int .i64 0] 78)
  have X7 := Box.newAt (w := ((w.alloc (.cells #[.int .i64 p.top, .int .i64 p.bank, .int .i64 p.siphon, .int .i64 p.start, .int .i64 p.positions, .int .i64 p.rate, .int .i64 p.step, .int .i64 p.pass, .int .i64 p.feed, .int .i64 p.pipe, .int .i64 p.orders, .int .i64 p.age] 55)).alloc (.cells #[.slice A2 m2 k2] 63))) (n := w.heap.size + 1 + 1) [.int .i64 0, .int .i64 0, .int .i64 0, .int .i64 0, .int .i64 0, .int .i64 0, .int .i64 0, .int .i64 0, .int .i64 0] 78 (by simp)
  generalize (((w.alloc (.cells #[.int .i64 p.top, .int .i64 p.bank, .int .i64 p.siphon, .int .i64 p.start, .int .i64 p.positions, .int .i64 p.rate, .int .i64 p.step, .int .i64 p.pass, .int .i64 p.feed, .int .i64 p.pipe, .int .i64 p.orders, .int .i64 p.age] 55)).alloc (.cells #[.slice A2 m2 k2] 63)).alloc (.cells #[.int .i64 0, .int .i64 0, .int .i64 0, .int .i64 0, .int .i64 0, .int .i64 0, .int .i64 0, .int .i64 0, .int .i64 0] 78)) = w0 at X3 X4 X7 hB ⊢
  have X3c0 : w0.cell? ⟨w.heap.size, 0, none⟩ = some (.int .i64 p.top) := X3.cell 0
  have X3c1 : w0.cell? ⟨w.heap.size, 1, none⟩ = some (.int .i64 p.bank) := X3.cell 1
  have X3c2 : w0.cell? ⟨w.heap.size, 2, none⟩ = some (.int .i64 p.siphon) := X3.cell 2
  have X3c3 : w0.cell? ⟨w.heap.size, 3, none⟩ = some (.int .i64 p.start) := X3.cell 3
  have X3c4 : w0.cell? ⟨w.heap.size, 4, none⟩ = some (.int .i64 p.positions) := X3.cell 4
  have X3c5 : w0.cell? ⟨w.heap.size, 5, none⟩ = some (.int .i64 p.rate) := X3.cell 5
  have X3c6 : w0.cell? ⟨w.heap.size, 6, none⟩ = some (.int .i64 p.step) := X3.cell 6
  have X3c7 : w0.cell? ⟨w.heap.size, 7, none⟩ = some (.int .i64 p.pass) := X3.cell 7
  have X3c8 : w0.cell? ⟨w.heap.size, 8, none⟩ = some (.int .i64 p.feed) := X3.cell 8
  have X3c9 : w0.cell? ⟨w.heap.size, 9, none⟩ = some (.int .i64 p.pipe) := X3.cell 9
  have X3c10 : w0.cell? ⟨w.heap.size, 10, none⟩ = some (.int .i64 p.orders) := X3.cell 10
  have X3c11 : w0.cell? ⟨w.heap.size, 11, none⟩ = some (.int .i64 p.age) := X3.cell 11
  have X4c0 : w0.cell? ⟨w.heap.size + 1, 0, none⟩ = some (.slice A2 m2 k2) := X4.cell 0
  have X3z := X3.lt
  have X4z := X4.lt
  go_wp2_with fail
  refine (rbAsk_is h (hC.out.later hB)).mono ?_
  rintro e w1 ⟨rfl, hb⟩
  have X3 := X3.later hb
  have X4 := X4.later hb
  have X7 := X7.later hb
  have hB := hB.trans (hb.mono hB.size)
  clear hb
  clear X3c0 X3c1 X3c2 X3c3 X3c4 X3c5 X3c6 X3c7 X3c8 X3c9 X3c10 X3c11 X4c0 X3z X4z
  go_wp2_with fail
  refine (rbCheck_any b _ _ er hb1 ((_hQ.out.below hB).more hB.size)).mono ?_
  rintro e w2 ⟨rfl, hb⟩
  have X7 := X7.later hb
  have hB := hB.trans (hb.mono hB.size)
  clear hb
  have X7c0 : w2.cell? ⟨w.heap.size + 1 + 1, 0, none⟩ = some (.int .i64 0) := X7.cell 0
  have X7f0 : w2.frozen? ⟨w.heap.size + 1 + 1, 0, none⟩ = false := X7.free 0
  have X7c1 : w2.cell? ⟨w.heap.size + 1 + 1, 1, none⟩ = some (.int .i64 0) := X7.cell 1
  have X7f1 : w2.frozen? ⟨w.heap.size + 1 + 1, 1, none⟩ = false := X7.free 1
  have X7c2 : w2.cell? ⟨w.heap.size + 1 + 1, 2, none⟩ = some (.int .i64 0) := X7.cell 2
  have X7f2 : w2.frozen? ⟨w.heap.size + 1 + 1, 2, none⟩ = false := X7.free 2
  have X7c3 : w2.cell? ⟨w.heap.size + 1 + 1, 3, none⟩ = some (.int .i64 0) := X7.cell 3
  have X7f3 : w2.frozen? ⟨w.heap.size + 1 + 1, 3, none⟩ = false := X7.free 3
  have X7c4 : w2.cell? ⟨w.heap.size + 1 + 1, 4, none⟩ = some (.int .i64 0) := X7.cell 4
  have X7f4 : w2.frozen? ⟨w.heap.size + 1 + 1, 4, none⟩ = false := X7.free 4
  have X7c5 : w2.cell? ⟨w.heap.size + 1 + 1, 5, none⟩ = some (.int .i64 0) := X7.cell 5
  have X7f5 : w2.frozen? ⟨w.heap.size + 1 + 1, 5, none⟩ = false := X7.free 5
  have X7c6 : w2.cell? ⟨w.heap.size + 1 + 1, 6, none⟩ = some (.int .i64 0) := X7.cell 6
  have X7f6 : w2.frozen? ⟨w.heap.size + 1 + 1, 6, none⟩ = false := X7.free 6
  have X7c7 : w2.cell? ⟨w.heap.size + 1 + 1, 7, none⟩ = some (.int .i64 0) := X7.cell 7
  have X7f7 : w2.frozen? ⟨w.heap.size + 1 + 1, 7, none⟩ = false := X7.free 7
  have X7c8 : w2.cell? ⟨w.heap.size + 1 + 1, 8, none⟩ = some (.int .i64 0) := X7.cell 8
  have X7f8 : w2.frozen? ⟨w.heap.size + 1 + 1, 8, none⟩ = false := X7.free 8
  have X7z : w.heap.size + 1 + 1 < w2.heap.size := X7.lt
  go_wp2
  have Z7 := (((((((((X7.set 0 (.int .i64 0)).set 1 (.int .i64 0)).set 2 (.int .i64 0)).set 3 (.int .i64 0)).set 4 (.int .i64 0)).set 5 (.int .i64 0)).set 6 (.int .i64 0)).set 7 (.int .i64 0)).set 8 (.int .i64 0))
  have hB3 := (((((((((hB.setCell (p := ⟨w.heap.size + 1 + 1, 0, none⟩) (by simp <;> omega) (.int .i64 0)).setCell (p := ⟨w.heap.size + 1 + 1, 1, none⟩) (by simp <;> omega) (.int .i64 0)).setCell (p := ⟨w.heap.size + 1 + 1, 2, none⟩) (by simp <;> omega) (.int .i64 0)).setCell (p := ⟨w.heap.size + 1 + 1, 3, none⟩) (by simp <;> omega) (.int .i64 0)).setCell (p := ⟨w.heap.size + 1 + 1, 4, none⟩) (by simp <;> omega) (.int .i64 0)).setCell (p := ⟨w.heap.size + 1 + 1, 5, none⟩) (by simp <;> omega) (.int .i64 0)).setCell (p := ⟨w.heap.size + 1 + 1, 6, none⟩) (by simp <;> omega) (.int .i64 0)).setCell (p := ⟨w.heap.size + 1 + 1, 7, none⟩) (by simp <;> omega) (.int .i64 0)).setCell (p := ⟨w.heap.size + 1 + 1, 8, none⟩) (by simp <;> omega) (.int .i64 0))
  generalize (((((((((w2.setCell ⟨w.heap.size + 1 + 1, 0, none⟩ (.int .i64 0)).setCell ⟨w.heap.size + 1 + 1, 1, none⟩ (.int .i64 0)).setCell ⟨w.heap.size + 1 + 1, 2, none⟩ (.int .i64 0)).setCell ⟨w.heap.size + 1 + 1, 3, none⟩ (.int .i64 0)).setCell ⟨w.heap.size + 1 + 1, 4, none⟩ (.int .i64 0)).setCell ⟨w.heap.size + 1 + 1, 5, none⟩ (.int .i64 0)).setCell ⟨w.heap.size + 1 + 1, 6, none⟩ (.int .i64 0)).setCell ⟨w.heap.size + 1 + 1, 7, none⟩ (.int .i64 0)).setCell ⟨w.heap.size + 1 + 1, 8, none⟩ (.int .i64 0)) = W at Z7 hB3 ⊢
  have Z7c0 : W.cell? ⟨w.heap.size + 1 + 1, 0, none⟩ = some (.int .i64 0) := Z7.cell 0
  have Z7c1 : W.cell? ⟨w.heap.size + 1 + 1, 1, none⟩ = some (.int .i64 0) := Z7.cell 1
  have Z7c2 : W.cell? ⟨w.heap.size + 1 + 1, 2, none⟩ = some (.int .i64 0) := Z7.cell 2
  have Z7c3 : W.cell? ⟨w.heap.size + 1 + 1, 3, none⟩ = some (.int .i64 0) := Z7.cell 3
  have Z7c4 : W.cell? ⟨w.heap.size + 1 + 1, 4, none⟩ = some (.int .i64 0) := Z7.cell 4
  have Z7c5 : W.cell? ⟨w.heap.size + 1 + 1, 5, none⟩ = some (.int .i64 0) := Z7.cell 5
  have Z7c6 : W.cell? ⟨w.heap.size + 1 + 1, 6, none⟩ = some (.int .i64 0) := Z7.cell 6
  have Z7c7 : W.cell? ⟨w.heap.size + 1 + 1, 7, none⟩ = some (.int .i64 0) := Z7.cell 7
  have Z7c8 : W.cell? ⟨w.heap.size + 1 + 1, 8, none⟩ = some (.int .i64 0) := Z7.cell 8
  refine bodyPost_ret (v := .tuple #[.bool false, Fw.zero.v, .int .i64 er]) (by simp [results, Try.results64, go_sem, Z7c0, Z7c1, Z7c2, Z7c3, Z7c4, Z7c5, Z7c6, Z7c7, Z7c8, Fw.zero, St.zero, Sh.zero]) rfl ?_
  exact ⟨rfl, hB3⟩

set_option maxRecDepth 100000 in
set_option maxHeartbeats 4000000 in
theorem rbCert_2 (p : Pl) (c : List Ln) (b : List Iq) (A1 A2 : Option Addr) (m k m2 k2 : Nat) (w : World) (h : Hid (askT p c = 0)) (hb1 : Hid (barT b = 0)) (hin : Hid (inB b p.beginT.1 = false)) (b0 b1 b2 b3 b4 b5 be : Int) (hbe : Hid (p.beginT = (⟨b0, b1, b2, b3, b4, b5⟩, be))) (hC : Hid (CodeAt w w.heap.size (.slice A2 m2 k2) c)) (_hQ : Hid (BarAt w w.heap.size (.slice A1 m k) b)) :
    Calls Try.prog 64 #[p.v, .agg #[.slice A2 m2 k2], .slice A1 m k] w fun e w' => e = .returned (.tuple #[.bool false, (Fw.mk 1 ⟨b0, b1, b2, b3, b4, b5⟩ Sh.zero).v, .int .i64 0]) ∧ Below w.heap.size w w' := by
  go_enter Try.func64, Try.ntmps64
  go_upto_region 1 with fail
  have hB := (((Below.refl w.heap.size w).alloc (by simp <;> omega) (.cells #[.int .i64 p.top, .int .i64 p.bank, .int .i64 p.siphon, .int .i64 p.start, .int .i64 p.positions, .int .i64 p.rate, .int .i64 p.step, .int .i64 p.pass, .int .i64 p.feed, .int .i64 p.pipe, .int .i64 p.orders, .int .i64 p.age] 55)).alloc (by simp <;> omega) (.cells #[.slice A2 m2 k2] 63)).alloc (by simp <;> omega) (.cells #[.int .i64 0, .int .i64 0, .int .i64 0, .int .i64 0, .int .i64 0, .int .i64 0, .int .i64 0, .int .i64 0, .int .i64 0] 78)
  have X3 := ((Box.newAt (w := w) (n := w.heap.size) [.int .i64 p.top, .int .i64 p.bank, .int .i64 p.siphon, .int .i64 p.start, .int .i64 p.positions, .int .i64 p.rate, .int .i64 p.step, .int .i64 p.pass, .int .i64 p.feed, .int .i64 p.pipe, .int .i64 p.orders, .int .i64 p.age] 55 (by simp)).alloc (.cells #[.slice A2 m2 k2] 63)).alloc (.cells #[.int .i64 0, .int .i64 0, .int .i64 0, .int .i64 0, .int .i64 0, .int .i64 0, .int .i64 0, .int .i64 0, .int .i64 0] 78)
  have X4 := (Box.newAt (w := (w.alloc (.cells #[.int .i64 p.top, .int .i64 p.bank, .int .i64 p.siphon, .int .i64 p.start, .int .i64 p.positions, .int .i64 p.rate, .int .i64 p.step, .int .i64 p.pass, .int .i64 p.feed, .int .i64 p.pipe, .int .i64 p.orders, .int .i64 p.age] 55))) (n := w.heap.size + 1) [.slice A2 m2 k2] 63 (by simp)).alloc (.cells #[.int .i64 0, .int .i64 0, .int .i64 0, .int .i64 0, .int .i64 0, .int .i64 0, .int .i64 0, .int .i64 0, .int .i64 0] 78)
  have X7 := Box.newAt (w := ((w.alloc (.cells #[.int .i64 p.top, .int .i64 p.bank, .int .i64 p.siphon, .int .i64 p.start, .int .i64 p.positions, .int .i64 p.rate, .int .i64 p.step, .int .i64 p.pass, .int .i64 p.feed, .int .i64 p.pipe, .int .i64 p.orders, .int .i64 p.age] 55)).alloc (.cells #[.slice A2 m2 k2] 63))) (n := w.heap.size + 1 + 1) [.int .i64 0, .int .i64 0, .int .i64 0, .int .i64 0, .int .i64 0, .int .i64 0, .int .i64 0, .int .i64 0, .int .i64 0] 78 (by simp)
  generalize (((w.alloc (.cells #[.int .i64 p.top, .int .i64 p.bank, .int .i64 p.siphon, .int .i64 p.start, .int .i64 p.positions, .int .i64 p.rate, .int .i64 p.step, .int .i64 p.pass, .int .i64 p.feed, .int .i64 p.pipe, .int .i64 p.orders, .int .i64 p.age] 55)).alloc (.cells #[.slice A2 m2 k2] 63)).alloc (.cells #[.int .i64 0, .int .i64 0, .int .i64 0, .int .i64 0, .int .i64 0, .int .i64 0, .int .i64 0, .int .i64 0, .int .i64 0] 78)) = w0 at X3 X4 X7 hB ⊢
  have X3c0 : w0.cell? ⟨w.heap.size, 0, none⟩ = some (.int .i64 p.top) := X3.cell 0
  have X3c1 : w0.cell? ⟨w.heap.size, 1, none⟩ = some (.int .i64 p.bank) := X3.cell 1
  have X3c2 : w0.cell? ⟨w.heap.size, 2, none⟩ = some (.int .i64 p.siphon) := X3.cell 2
  have X3c3 : w0.cell? ⟨w.heap.size, 3, none⟩ = some (.int .i64 p.start) := X3.cell 3
  have X3c4 : w0.cell? ⟨w.heap.size, 4, none⟩ = some (.int .i64 p.positions) := X3.cell 4
  have X3c5 : w0.cell? ⟨w.heap.size, 5, none⟩ = some (.int .i64 p.rate) := X3.cell 5
  have X3c6 : w0.cell? ⟨w.heap.size, 6, none⟩ = some (.int .i64 p.step) := X3.cell 6
  have X3c7 : w0.cell? ⟨w.heap.size, 7, none⟩ = some (.int .i64 p.pass) := X3.cell 7
  have X3c8 : w0.cell? ⟨w.heap.size, 8, none⟩ = some (.int .i64 p.feed) := X3.cell 8
  have X3c9 : w0.cell? ⟨w.heap.size, 9, none⟩ = some (.int .i64 p.pipe) := X3.cell 9
  have X3c10 : w0.cell? ⟨w.heap.size, 10, none⟩ = some (.int .i64 p.orders) := X3.cell 10
  have X3c11 : w0.cell? ⟨w.heap.size, 11, none⟩ = some (.int .i64 p.age) := X3.cell 11
  have X4c0 : w0.cell? ⟨w.heap.size + 1, 0, none⟩ = some (.slice A2 m2 k2) := X4.cell 0
  have X3z := X3.lt
  have X4z := X4.lt
  go_wp2_with fail
  refine (rbAsk_is h (hC.out.later hB)).mono ?_
  rintro e w1 ⟨rfl, hb⟩
  have X3 := X3.later hb
  have X4 := X4.later hb
  have X7 := X7.later hb
  have hB := hB.trans (hb.mono hB.size)
  clear hb
  clear X3c0 X3c1 X3c2 X3c3 X3c4 X3c5 X3c6 X3c7 X3c8 X3c9 X3c10 X3c11 X4c0 X3z X4z
  go_wp2_with fail
  refine (rbCheck_any b _ _ 0 hb1 ((_hQ.out.below hB).more hB.size)).mono ?_
  rintro e w2 ⟨rfl, hb⟩
  have X3 := X3.later hb
  have X4 := X4.later hb
  have X7 := X7.later hb
  have hB := hB.trans (hb.mono hB.size)
  clear hb
  have X3c0 : w2.cell? ⟨w.heap.size, 0, none⟩ = some (.int .i64 p.top) := X3.cell 0
  have X3c1 : w2.cell? ⟨w.heap.size, 1, none⟩ = some (.int .i64 p.bank) := X3.cell 1
  have X3c2 : w2.cell? ⟨w.heap.size, 2, none⟩ = some (.int .i64 p.siphon) := X3.cell 2
  have X3c3 : w2.cell? ⟨w.heap.size, 3, none⟩ = some (.int .i64 p.start) := X3.cell 3
  have X3c4 : w2.cell? ⟨w.heap.size, 4, none⟩ = some (.int .i64 p.positions) := X3.cell 4
  have X3c5 : w2.cell? ⟨w.heap.size, 5, none⟩ = some (.int .i64 p.rate) := X3.cell 5
  have X3c6 : w2.cell? ⟨w.heap.size, 6, none⟩ = some (.int .i64 p.step) := X3.cell 6
  have X3c7 : w2.cell? ⟨w.heap.size, 7, none⟩ = some (.int .i64 p.pass) := X3.cell 7
  have X3c8 : w2.cell? ⟨w.heap.size, 8, none⟩ = some (.int .i64 p.feed) := X3.cell 8
  have X3c9 : w2.cell? ⟨w.heap.size, 9, none⟩ = some (.int .i64 p.pipe) := X3.cell 9
  have X3c10 : w2.cell? ⟨w.heap.size, 10, none⟩ = some (.int .i64 p.orders) := X3.cell 10
  have X3c11 : w2.cell? ⟨w.heap.size, 11, none⟩ = some (.int .i64 p.age) := X3.cell 11
  have X3z := X3.lt
  go_wp2_with fail
  have hBE := Lib.hid (congrArg Prod.fst hbe.out)
  dsimp only at hBE
  refine (rbegin_is hbe).mono ?_
  rintro e w3 ⟨rfl, hb⟩
  have X3 := X3.later hb
  have X4 := X4.later hb
  have X7 := X7.later hb
  have hB := hB.trans (hb.mono hB.size)
  clear hb
  clear X3c0 X3c1 X3c2 X3c3 X3c4 X3c5 X3c6 X3c7 X3c8 X3c9 X3c10 X3c11 X3z
  go_upto_region 8 with fail
  have X10 := Box.new w3 [.int .i64 b0, .int .i64 b1, .int .i64 b2, .int .i64 b3, .int .i64 b4, .int .i64 b5] 51
  have X7lt := X7.lt
  have X3 := X3.alloc (.cells #[.int .i64 b0, .int .i64 b1, .int .i64 b2, .int .i64 b3, .int .i64 b4, .int .i64 b5] 51)
  have X4 := X4.alloc (.cells #[.int .i64 b0, .int .i64 b1, .int .i64 b2, .int .i64 b3, .int .i64 b4, .int .i64 b5] 51)
  have X7 := X7.alloc (.cells #[.int .i64 b0, .int .i64 b1, .int .i64 b2, .int .i64 b3, .int .i64 b4, .int .i64 b5] 51)
  have hB := hB.alloc hB.size (.cells #[.int .i64 b0, .int .i64 b1, .int .i64 b2, .int .i64 b3, .int .i64 b4, .int .i64 b5] 51)
  generalize hgG : w3.heap.size = G at X10 X7lt ⊢
  generalize w3.alloc (.cells #[.int .i64 b0, .int .i64 b1, .int .i64 b2, .int .i64 b3, .int .i64 b4, .int .i64 b5] 51) = w4 at X3 X4 X7 X10 hB ⊢
  have X10c0 : w4.cell? ⟨G, 0, none⟩ = some (.int .i64 b0) := X10.cell 0
  have X10c1 : w4.cell? ⟨G, 1, none⟩ = some (.int .i64 b1) := X10.cell 1
  have X10c2 : w4.cell? ⟨G, 2, none⟩ = some (.int .i64 b2) := X10.cell 2
  have X10c3 : w4.cell? ⟨G, 3, none⟩ = some (.int .i64 b3) := X10.cell 3
  have X10c4 : w4.cell? ⟨G, 4, none⟩ = some (.int .i64 b4) := X10.cell 4
  have X10c5 : w4.cell? ⟨G, 5, none⟩ = some (.int .i64 b5) := X10.cell 5
  have X10z := X10.lt
  go_wp2_with fail
  refine (rbIn_any b ⟨b0, b1, b2, b3, b4, b5⟩ _ _ false (by rw [← hBE.out]; exact hin) ((_hQ.out.below hB).more hB.size) (Lib.hid (barT_ok hb1.out)) (by rw [← hBE.out]; exact begin_nums (ask_zero h.out).1)).mono ?_
  rintro e w5 ⟨rfl, hb⟩
  have X3 := X3.later hb
  have X4 := X4.later hb
  have X7 := X7.later hb
  have X10 := X10.later hb
  have hB := hB.trans (hb.mono hB.size)
  clear hb
  clear X10c0 X10c1 X10c2 X10c3 X10c4 X10c5 X10z
  have X10c0 : w5.cell? ⟨G, 0, none⟩ = some (.int .i64 b0) := X10.cell 0
  have X10c1 : w5.cell? ⟨G, 1, none⟩ = some (.int .i64 b1) := X10.cell 1
  have X10c2 : w5.cell? ⟨G, 2, none⟩ = some (.int .i64 b2) := X10.cell 2
  have X10c3 : w5.cell? ⟨G, 3, none⟩ = some (.int .i64 b3) := X10.cell 3
  have X10c4 : w5.cell? ⟨G, 4, none⟩ = some (.int .i64 b4) := X10.cell 4
  have X10c5 : w5.cell? ⟨G, 5, none⟩ = some (.int .i64 b5) := X10.cell 5
  have X10z := X10.lt
  have X7c0 : w5.cell? ⟨w.heap.size + 1 + 1, 0, none⟩ = some (.int .i64 0) := X7.cell 0
  have X7f0 : w5.frozen? ⟨w.heap.size + 1 + 1, 0, none⟩ = false := X7.free 0
  have X7c1 : w5.cell? ⟨w.heap.size + 1 + 1, 1, none⟩ = some (.int .i64 0) := X7.cell 1
  have X7f1 : w5.frozen? ⟨w.heap.size + 1 + 1, 1, none⟩ = false := X7.free 1
  have X7c2 : w5.cell? ⟨w.heap.size + 1 + 1, 2, none⟩ = some (.int .i64 0) := X7.cell 2
  have X7f2 : w5.frozen? ⟨w.heap.size + 1 + 1, 2, none⟩ = false := X7.free 2
  have X7c3 : w5.cell? ⟨w.heap.size + 1 + 1, 3, none⟩ = some (.int .i64 0) := X7.cell 3
  have X7f3 : w5.frozen? ⟨w.heap.size + 1 + 1, 3, none⟩ = false := X7.free 3
  have X7c4 : w5.cell? ⟨w.heap.size + 1 + 1, 4, none⟩ = some (.int .i64 0) := X7.cell 4
  have X7f4 : w5.frozen? ⟨w.heap.size + 1 + 1, 4, none⟩ = false := X7.free 4
  have X7c5 : w5.cell? ⟨w.heap.size + 1 + 1, 5, none⟩ = some (.int .i64 0) := X7.cell 5
  have X7f5 : w5.frozen? ⟨w.heap.size + 1 + 1, 5, none⟩ = false := X7.free 5
  have X7c6 : w5.cell? ⟨w.heap.size + 1 + 1, 6, none⟩ = some (.int .i64 0) := X7.cell 6
  have X7f6 : w5.frozen? ⟨w.heap.size + 1 + 1, 6, none⟩ = false := X7.free 6
  have X7c7 : w5.cell? ⟨w.heap.size + 1 + 1, 7, none⟩ = some (.int .i64 0) := X7.cell 7
  have X7f7 : w5.frozen? ⟨w.heap.size + 1 + 1, 7, none⟩ = false := X7.free 7
  have X7c8 : w5.cell? ⟨w.heap.size + 1 + 1, 8, none⟩ = some (.int .i64 0) := X7.cell 8
  have X7f8 : w5.frozen? ⟨w.heap.size + 1 + 1, 8, none⟩ = false := X7.free 8
  have X7z : w.heap.size + 1 + 1 < w5.heap.size := X7.lt
  go_wp2_with fail
  go_region
  all_goals
    go_wp2
    have Z7 := (((((((((X7.set 0 (.int .i64 1)).set 1 (.int .i64 b0)).set 2 (.int .i64 b1)).set 3 (.int .i64 b2)).set 4 (.int .i64 b3)).set 5 (.int .i64 b4)).set 6 (.int .i64 b5)).set 7 (.int .i64 0)).set 8 (.int .i64 0))
    have hB3 := (((((((((hB.setCell (p := ⟨w.heap.size + 1 + 1, 0, none⟩) (by simp <;> omega) (.int .i64 1)).setCell (p := ⟨w.heap.size + 1 + 1, 1, none⟩) (by simp <;> omega) (.int .i64 b0)).setCell (p := ⟨w.heap.size + 1 + 1, 2, none⟩) (by simp <;> omega) (.int .i64 b1)).setCell (p := ⟨w.heap.size + 1 + 1, 3, none⟩) (by simp <;> omega) (.int .i64 b2)).setCell (p := ⟨w.heap.size + 1 + 1, 4, none⟩) (by simp <;> omega) (.int .i64 b3)).setCell (p := ⟨w.heap.size + 1 + 1, 5, none⟩) (by simp <;> omega) (.int .i64 b4)).setCell (p := ⟨w.heap.size + 1 + 1, 6, none⟩) (by simp <;> omega) (.int .i64 b5)).setCell (p := ⟨w.heap.size + 1 + 1, 7, none⟩) (by simp <;> omega) (.int .i64 0)).setCell (p := ⟨w.heap.size + 1 + 1, 8, none⟩) (by simp <;> omega) (.int .i64 0))
    generalize (((((((((w5.setCell ⟨w.heap.size + 1 + 1, 0, none⟩ (.int .i64 1)).setCell ⟨w.heap.size + 1 + 1, 1, none⟩ (.int .i64 b0)).setCell ⟨w.heap.size + 1 + 1, 2, none⟩ (.int .i64 b1)).setCell ⟨w.heap.size + 1 + 1, 3, none⟩ (.int .i64 b2)).setCell ⟨w.heap.size + 1 + 1, 4, none⟩ (.int .i64 b3)).setCell ⟨w.heap.size + 1 + 1, 5, none⟩ (.int .i64 b4)).setCell ⟨w.heap.size + 1 + 1, 6, none⟩ (.int .i64 b5)).setCell ⟨w.heap.size + 1 + 1, 7, none⟩ (.int .i64 0)).setCell ⟨w.heap.size + 1 + 1, 8, none⟩ (.int .i64 0)) = W at Z7 hB3 ⊢
    have Z7c0 : W.cell? ⟨w.heap.size + 1 + 1, 0, none⟩ = some (.int .i64 1) := Z7.cell 0
    have Z7c1 : W.cell? ⟨w.heap.size + 1 + 1, 1, none⟩ = some (.int .i64 b0) := Z7.cell 1
    have Z7c2 : W.cell? ⟨w.heap.size + 1 + 1, 2, none⟩ = some (.int .i64 b1) := Z7.cell 2
    have Z7c3 : W.cell? ⟨w.heap.size + 1 + 1, 3, none⟩ = some (.int .i64 b2) := Z7.cell 3
    have Z7c4 : W.cell? ⟨w.heap.size + 1 + 1, 4, none⟩ = some (.int .i64 b3) := Z7.cell 4
    have Z7c5 : W.cell? ⟨w.heap.size + 1 + 1, 5, none⟩ = some (.int .i64 b4) := Z7.cell 5
    have Z7c6 : W.cell? ⟨w.heap.size + 1 + 1, 6, none⟩ = some (.int .i64 b5) := Z7.cell 6
    have Z7c7 : W.cell? ⟨w.heap.size + 1 + 1, 7, none⟩ = some (.int .i64 0) := Z7.cell 7
    have Z7c8 : W.cell? ⟨w.heap.size + 1 + 1, 8, none⟩ = some (.int .i64 0) := Z7.cell 8
    refine bodyPost_ret (v := .tuple #[.bool false, (Fw.mk 1 ⟨b0, b1, b2, b3, b4, b5⟩ Sh.zero).v, .int .i64 0]) (by simp [results, Try.results64, go_sem, Z7c0, Z7c1, Z7c2, Z7c3, Z7c4, Z7c5, Z7c6, Z7c7, Z7c8, Sh.zero]) rfl ?_
    exact ⟨rfl, hB3.drew⟩

end Go.Proofs.Ytcjcjkomcolgeaa
