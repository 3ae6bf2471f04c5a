/- Barriers: the states are those that a plant has; what a certificate says. Plain facts. No condition. -/
import Derived.Test.YtancngachnpefaaQS
import Derived.Lib.MinMax
import Derived.RegionTactic
import Derived.BigRegion
import Derived.Laws.EntriesVeiled
set_option linter.unusedVariables false
set_option linter.unusedSimpArgs false
set_option maxRecDepth 100000
set_option maxHeartbeats 2000000
namespace Go.Proofs.Ytancngachnpefaa
open Go.RowKit
theorem inI_in {n lo hi : Int} (h : lo ≤ n ∧ n ≤ hi) : inI n lo hi = true := decide_eq_true h
theorem digits {n m : Nat} {k : Nat} (hm : 0 < m) : k / m < n ↔ k < n * m := Nat.div_lt_iff_lt_mul hm
section
variable {p : Pl}
theorem Pl.Valid.ns (hv : p.Valid) : 0 < p.n0 ∧ 0 < p.nx ∧ 0 < p.ny ∧ 0 < p.no ∧ 0 < p.na := by
  have h1 := hv.positions
  have h2 := hv.feed
  have h3 := hv.orders
  have h4 := hv.age
  refine ⟨?_, ?_, ?_, ?_, ?_⟩
  · unfold Pl.n0; omega
  · unfold Pl.nx; split <;> omega
  · unfold Pl.ny; split <;> omega
  · unfold Pl.no; omega
  · unfold Pl.na; omega
theorem Pl.Valid.maxes (hv : p.Valid) : ((p.nx : Int) - 1 = if 0 < p.pipe then p.feed else 0) ∧ ((p.ny : Int) - 1 = if 1 < p.pipe then p.feed else 0) := by
  have h2 := hv.feed
  have h3 := hv.pipe
  unfold Pl.nx Pl.ny
  constructor
  · split <;> split <;> omega
  · split <;> split <;> omega
theorem stAt_has (hv : p.Valid) {k : Nat} (hk : k < p.count) : p.hasB (p.stAt k) = true := by
  obtain ⟨a, b, c, d, e⟩ := hv.ns
  obtain ⟨m1, m2⟩ := hv.maxes
  have h1 := hv.positions
  have h2 := hv.top
  have h3 := hv.orders
  have h4 := hv.age
  have hM : 0 < p.n0 * (p.nx * (p.ny * (p.no * p.na))) := by
    refine Nat.mul_pos a (Nat.mul_pos b (Nat.mul_pos c (Nat.mul_pos d e)))
  have t0 : k / (p.n0 * (p.nx * (p.ny * (p.no * p.na)))) < (p.top + 1).toNat := (digits hM).2 hk
  have t1 := Nat.mod_lt (k / (p.nx * (p.ny * (p.no * p.na)))) a
  have t2 := Nat.mod_lt (k / (p.ny * (p.no * p.na))) b
  have t3 := Nat.mod_lt (k / (p.no * p.na)) c
  have t4 := Nat.mod_lt (k / p.na) d
  have t5 := Nat.mod_lt k e
  have e0 : (p.n0 : Int) = p.positions + 1 := by unfold Pl.n0; omega
  have e1 : (p.no : Int) = p.orders + 1 := by unfold Pl.no; omega
  have e2 : (p.na : Int) = p.age + 1 := by unfold Pl.na; omega
  rw [Pl.hasB, ← m1, ← m2]
  unfold Pl.stAt
  dsimp only
  generalize k / (p.n0 * (p.nx * (p.ny * (p.no * p.na)))) = q0 at t0 ⊢
  generalize k / (p.nx * (p.ny * (p.no * p.na))) % p.n0 = q1 at t1 ⊢
  generalize k / (p.ny * (p.no * p.na)) % p.nx = q2 at t2 ⊢
  generalize k / (p.no * p.na) % p.ny = q3 at t3 ⊢
  generalize k / p.na % p.no = q4 at t4 ⊢
  generalize k % p.na = q5 at t5 ⊢
  clear hM hk
  rw [inI_in (by omega), inI_in (by omega), inI_in (by omega), inI_in (by omega), inI_in (by omega), inI_in (by omega)]
  rfl
theorem states_has (hv : p.Valid) {s : St} (h : s ∈ p.states) : p.hasB s = true := by
  obtain ⟨k, hk, rfl⟩ := List.mem_map.1 h
  exact stAt_has hv (List.mem_range.1 hk)
def Pl.idx (p : Pl) (s : St) : Nat := ((((s.level.toNat * p.n0 + s.position.toNat) * p.nx + s.p0.toNat) * p.ny + s.p1.toNat) * p.no + s.order.toNat) * p.na + s.age.toNat
theorem div_step {q n r : Nat} (hr : r < n) : (q * n + r) / n = q ∧ (q * n + r) % n = r := by
  constructor
  · rw [Nat.add_comm, Nat.add_mul_div_right _ _ (by omega), Nat.div_eq_of_lt hr, Nat.zero_add]
  · rw [Nat.add_comm, Nat.add_mul_mod_self_right, Nat.mod_eq_of_lt hr]
theorem idx_spec (hv : p.Valid) {s : St} (h : p.hasB s = true) : p.idx s < p.count ∧ p.stAt (p.idx s) = s := by
  obtain ⟨m1, m2⟩ := hv.maxes
  simp only [Pl.hasB, Bool.and_eq_true, inI, decide_eq_true_eq, ← m1, ← m2] at h
  obtain ⟨l0, l1, l2, l3, l4, l5⟩ := h
  have h1 := hv.positions
  have h2 := hv.top
  have h3 := hv.orders
  have h4 := hv.age
  have e0 : (p.n0 : Int) = p.positions + 1 := by unfold Pl.n0; omega
  have e1 : (p.no : Int) = p.orders + 1 := by unfold Pl.no; omega
  have e2 : (p.na : Int) = p.age + 1 := by unfold Pl.na; omega
  have b0 : s.level.toNat < (p.top + 1).toNat := by omega
  have b1 : s.position.toNat < p.n0 := by omega
  have b2 : s.p0.toNat < p.nx := by omega
  have b3 : s.p1.toNat < p.ny := by omega
  have b4 : s.order.toNat < p.no := by omega
  have b5 : s.age.toNat < p.na := by omega
  obtain ⟨d5, r5⟩ := div_step (q := (((s.level.toNat * p.n0 + s.position.toNat) * p.nx + s.p0.toNat) * p.ny + s.p1.toNat) * p.no + s.order.toNat) b5
  obtain ⟨d4, r4⟩ := div_step (q := ((s.level.toNat * p.n0 + s.position.toNat) * p.nx + s.p0.toNat) * p.ny + s.p1.toNat) b4
  obtain ⟨d3, r3⟩ := div_step (q := (s.level.toNat * p.n0 + s.position.toNat) * p.nx + s.p0.toNat) b3
  obtain ⟨d2, r2⟩ := div_step (q := s.level.toNat * p.n0 + s.position.toNat) b2
  obtain ⟨d1, r1⟩ := div_step (q := s.level.toNat) b1
  have q5 : p.idx s / p.na = (((s.level.toNat * p.n0 + s.position.toNat) * p.nx + s.p0.toNat) * p.ny + s.p1.toNat) * p.no + s.order.toNat := d5
  have q4 : p.idx s / (p.no * p.na) = ((s.level.toNat * p.n0 + s.position.toNat) * p.nx + s.p0.toNat) * p.ny + s.p1.toNat := by rw [Nat.mul_comm p.no, ← Nat.div_div_eq_div_mul, q5, d4]
  have q3 : p.idx s / (p.ny * (p.no * p.na)) = (s.level.toNat * p.n0 + s.position.toNat) * p.nx + s.p0.toNat := by rw [Nat.mul_comm p.ny, ← Nat.div_div_eq_div_mul, q4, d3]
  have q2 : p.idx s / (p.nx * (p.ny * (p.no * p.na))) = s.level.toNat * p.n0 + s.position.toNat := by rw [Nat.mul_comm p.nx, ← Nat.div_div_eq_div_mul, q3, d2]
  have q1 : p.idx s / (p.n0 * (p.nx * (p.ny * (p.no * p.na)))) = s.level.toNat := by rw [Nat.mul_comm p.n0, ← Nat.div_div_eq_div_mul, q2, d1]
  constructor
  · obtain ⟨a, b, c, d, e⟩ := hv.ns
    have hM : 0 < p.n0 * (p.nx * (p.ny * (p.no * p.na))) := Nat.mul_pos a (Nat.mul_pos b (Nat.mul_pos c (Nat.mul_pos d e)))
    exact (digits hM).1 (by rw [q1]; exact b0)
  · unfold Pl.stAt
    rw [q1, q2, q3, q4, q5, r1, r2, r3, r4]
    have r5' : p.idx s % p.na = s.age.toNat := r5
    rw [r5']
    obtain ⟨x0, x1, x2, x3, x4, x5⟩ := s
    dsimp only at l0 l1 l2 l3 l4 l5 ⊢
    congr 1 <;> omega
theorem states_mem (hv : p.Valid) {s : St} : s ∈ p.states ↔ p.hasB s = true :=
  ⟨states_has hv, fun h => List.mem_map.2 ⟨p.idx s, List.mem_range.2 (idx_spec hv h).1, (idx_spec hv h).2⟩⟩
theorem shocks_mem (hv : p.Valid) {x : Sh} : x ∈ p.shocks ↔ chosenB p x = true := by
  have h2 := hv.feed
  have h3 := hv.orders
  have em : (p.nm : Int) = p.orders + 2 := by unfold Pl.nm; omega
  have hm : 0 < p.nm := by omega
  constructor
  · intro h
    obtain ⟨k, hk, rfl⟩ := List.mem_map.1 h
    have hk := List.mem_range.1 hk
    have t0 := (digits hm).2 hk
    have t1 := Nat.mod_lt k hm
    rw [chosenB]
    unfold Pl.shAt
    dsimp only
    generalize k / p.nm = q0 at t0 ⊢
    generalize k % p.nm = q1 at t1 ⊢
    rw [inI_in (by omega), inI_in (by omega)]
    rfl
  · intro h
    simp only [chosenB, Bool.and_eq_true, inI, decide_eq_true_eq] at h
    obtain ⟨d1, r1⟩ := div_step (q := x.feed.toNat) (n := p.nm) (r := (x.msg + 1).toNat) (by omega)
    refine List.mem_map.2 ⟨x.feed.toNat * p.nm + (x.msg + 1).toNat, List.mem_range.2 ((digits hm).1 (by rw [d1]; omega)), ?_⟩
    unfold Pl.shAt
    rw [d1, r1]
    obtain ⟨f, m⟩ := x
    dsimp only at h ⊢
    congr 1 <;> omega
end
structure Cert (p : Pl) (c : List Ln) (b : List Iq) : Prop where
  begin : inB b p.beginT.1 = true
  safe : ∀ s ∈ p.states, inB b s = true → p.safeB s = true
  stay : ∀ s ∈ p.states, inB b s = true → ∀ x ∈ p.shocks, inB b (nextT p c s x).1 = true
theorem flaw_none {p : Pl} {c : List Ln} {b : List Iq} {s : St} : flawAt p c b s = none ↔ (inB b s = true → p.safeB s = true ∧ ∀ x ∈ p.shocks, inB b (nextT p c s x).1 = true) := by
  unfold flawAt
  by_cases h1 : inB b s = true
  · rw [if_pos h1]
    by_cases h2 : p.safeB s = true
    · rw [if_pos h2]
      simp only [Option.map_eq_none_iff, List.find?_eq_none]
      simp [h1, h2]
    · rw [if_neg h2]
      simp [h1, h2]
  · rw [if_neg h1]
    simp [h1]
end Go.Proofs.Ytancngachnpefaa
namespace Go.Proofs.Ytancngachnpefaa
open Go.RowKit
def Pl.fed (p : Pl) (f : Int) : Pl := ⟨p.top, p.bank, p.siphon, p.start, p.positions, p.rate, p.step, p.pass, f, p.pipe, p.orders, p.age⟩
theorem ask_zero {p : Pl} {c : List Ln} (h : askT p c = 0) : p.checkT = 0 ∧ gateT c = 0 := by
  unfold askT at h
  split at h
  · exact ⟨by assumption, h⟩
  · rename_i h2; exact absurd h h2
structure Said (p : Pl) (c : List Ln) (b : List Iq) (f : Fw) : Prop where
  is : (f.kind = 1 ∧ inB b f.st = false ∧ f.st = p.beginT.1 ∧ f.sh = Sh.zero) ∨ (f.kind = 2 ∧ p.hasB f.st = true ∧ inB b f.st = true ∧ p.safeB f.st = false ∧ f.sh = Sh.zero) ∨
    (f.kind = 3 ∧ p.hasB f.st = true ∧ inB b f.st = true ∧ p.safeB f.st = true ∧ chosenB p f.sh = true ∧ inB b (nextT p c f.st f.sh).1 = false)
end Go.Proofs.Ytancngachnpefaa
namespace Go.Proofs.Ytancngachnpefaa
open Go.RowKit
def IntsAt (w : World) (B : Nat) (v : Value) (l : List Int) : Prop :=
  ∃ g off c, v = .slice (some ⟨g, off, none⟩) l.length c ∧ l.length ≤ maxLen ∧ g < B ∧ ∀ k (hk : k < l.length), w.cell? ⟨g, off + k, none⟩ = some (.int .i64 l[k])
def smB (n : Int) : Bool := inI n (-1048576) 1048576
theorem bTake {α : Type} (l : List α) (f : α → Bool) {k : Nat} (hk : k < l.length) : (l.take (k + 1)).all f = ((l.take k).all f && f l[k]) := by
  rw [List.take_succ_eq_append_getElem hk, List.all_append]
  simp
theorem bBad {α : Type} {l : List α} {f : α → Bool} {k : Nat} (hk : k < l.length) (h : f l[k] = false) : l.all f = false := by
  rw [List.all_eq_false]
  exact ⟨l[k], List.getElem_mem hk, by simp [h]⟩
theorem bRight1_any (n : Int) (w : World) : Calls Try.prog 64 #[.int .i64 n] w fun e w' => e = .returned (.bool (!smB n)) ∧ w = w' := by
  by_cases h1 : n < -1048576
  · have _hd : decide (n < -1048576) = true := decide_eq_true h1
    have hs : (!smB n) = true := by unfold smB inI; simp; omega
    rw [hs]
    go_enter Try.func64, Try.ntmps64
    go_wp2
    go_ret
    refine ⟨?_, rfl⟩
    first | rfl | (simp; done)
  · have _hd : decide (n < -1048576) = false := decide_eq_false h1
    have hs : (!smB n) = decide (1048576 < n) := by unfold smB inI; rw [Bool.eq_iff_iff]; simp; omega
    rw [hs]
    go_enter Try.func64, Try.ntmps64
    go_wp2
    go_ret
    refine ⟨?_, rfl⟩
    first | rfl | (simp; done)
theorem bIx_any (q : List Int) (v : Value) (w : World) (hQ : IntsAt w w.heap.size v q) :
    Calls Try.prog 74 #[v, .func (.func 64) #[] #[]] w fun e w' => ∃ z : Int, e = .returned (.int .i64 z) ∧ Hid (((!q.all smB) = true ∧ 0 ≤ z) ∨ ((!q.all smB) = false ∧ z < 0)) ∧ w = w' := by
  obtain ⟨g, off, c, rfl, hm, hg, hc⟩ := hQ
  unfold maxLen at hm
  obtain ⟨m, hnn⟩ : ∃ m, q.length = m := ⟨_, rfl⟩
  rw [hnn] at hm ⊢
  have HN := Lib.hid hnn
  have HC := Lib.hid hc
  clear hnn hc
  go_enter Try.func74, Try.ntmps74
  go_wp2_with fail
  go_loopw [8] (fun i wr => ∃ j : Nat, j ≤ m ∧ i = .int .i64 j ∧ wr = w ∧ Hid ((q.take j).all smB = true)) (fun i _ => m - (intOf i).toNat)
  case atStart => exact ⟨0, by omega, rfl, rfl, rfl⟩
  case round =>
    obtain ⟨j, hj, rfl, rfl, hall⟩ := hrel
    by_cases hlt : j < m
    · have hjl : j < q.length := by rw [HN.out]; exact hlt
      have q0 := HC.out j hjl
      have htk := bTake q smB hjl
      have hbad := bBad (f := smB) hjl
      obtain ⟨y, hy⟩ : ∃ y, q[j] = y := ⟨_, rfl⟩
      rw [hy] at q0 htk hbad
      rw [hall.out, Bool.true_and] at htk
      have htk := Lib.hid htk
      have hbad := Lib.hid hbad
      clear hy
      go_wp2_with fail
      refine (bRight1_any y _).mono ?_
      rintro e w1 ⟨rfl, rfl⟩
      rcases hh : smB y with _ | _
      · have hF := Lib.hid (hbad.out hh)
        go_wp2
        go_ret
        exact ⟨_, rfl, .inl ⟨by rw [hF.out]; rfl, by omega⟩, rfl⟩
      · go_wp2
        refine ⟨⟨j + 1, by omega, by go_num, by first | rfl | trivial, ?_⟩, by simp [intOf]; omega⟩
        rw [Hid, htk.out]
        exact hh
    · obtain rfl : j = m := by omega
      have hF : Hid (q.all smB = true) := by
        have := hall.out
        rw [← HN.out, List.take_length] at this
        exact this
      go_wp2
      go_ret
      exact ⟨_, rfl, .inr ⟨by rw [hF.out]; rfl, by omega⟩, rfl⟩
theorem bCf_any (q : List Int) (v : Value) (w : World) (t : Bool) (ht : Hid ((!q.all smB) = t)) (hQ : IntsAt w w.heap.size v q) :
    Calls Try.prog 63 #[v, .func (.func 64) #[] #[]] w fun e w' => e = .returned (.bool t) ∧ w = w' := by
  have hI := bIx_any q v w hQ
  rw [ht.out] at hI
  have HI := Lib.hid hI
  clear hI ht hQ
  go_enter Try.func63, Try.ntmps63
  go_wp2_with fail
  refine HI.out.mono ?_
  rintro e w1 ⟨z, rfl, hz, rfl⟩
  rcases hz.out with ⟨rfl, h0⟩ | ⟨rfl, h0⟩
  · have _hd : decide (0 ≤ z) = true := decide_eq_true h0
    go_wp2
    go_ret
    exact ⟨rfl, rfl⟩
  · have _hd : decide (0 ≤ z) = false := decide_eq_false (by omega)
    go_wp2
    go_ret
    exact ⟨rfl, rfl⟩
theorem bRight_any (q : List Int) (v : Value) (w : World) (t : Bool) (ht : Hid (q.all smB = t)) (hQ : IntsAt w w.heap.size v q) :
    Calls Try.prog 35 #[v] w fun e w' => e = .returned (.bool t) ∧ w = w' := by
  have H := Lib.hid (bCf_any q v w (!t) (by rw [Hid, ht.out]) hQ)
  clear ht hQ
  go_enter Try.func35, Try.ntmps35
  go_wp2_with fail
  refine H.out.mono ?_
  rintro e w1 ⟨rfl, rfl⟩
  go_wp2
  go_ret
  exact ⟨by simp, rfl⟩
end Go.Proofs.Ytancngachnpefaa
namespace Go.Proofs.Ytancngachnpefaa
open Go.RowKit
def PairsAt (w : World) (B : Nat) (v : Value) (l : List (Int × Int)) : Prop :=
  ∃ g off c, v = .slice (some ⟨g, off, none⟩) l.length c ∧ l.length ≤ maxLen ∧ g < B ∧ ∀ k (hk : k < l.length), w.cell? ⟨g, off + k * 2, none⟩ = some (.int .i64 (l[k]).1) ∧ w.cell? ⟨g, off + k * 2 + 1, none⟩ = some (.int .i64 (l[k]).2)
def prodT (l : List (Int × Int)) : Int := (l.map fun x => x.1 * x.2).sum
theorem prodT_take (l : List (Int × Int)) {k : Nat} (hk : k < l.length) : prodT (l.take (k + 1)) = prodT (l.take k) + (l[k]).1 * (l[k]).2 := by
  unfold prodT
  rw [List.take_succ_eq_append_getElem hk, List.map_append, List.sum_append]
  simp
theorem bProduct_any (q : List (Int × Int)) (v : Value) (w : World) (t : Int) (ht : Hid (prodT q = t)) (hn5 : q.length ≤ 5) (hQ : PairsAt w w.heap.size v q)
    (hbd : Hid (∀ x ∈ q, (-1048576 ≤ x.1 ∧ x.1 ≤ 1048576) ∧ -2097152 ≤ x.2 ∧ x.2 ≤ 2097152)) :
    Calls Try.prog 65 #[v] w fun e w' => e = .returned (.int .i64 t) ∧ Below w.heap.size w w' := by
  obtain ⟨g, off, c, rfl, hm, hg, hc⟩ := hQ
  unfold maxLen at hm
  obtain ⟨m, hnn⟩ : ∃ m, q.length = m := ⟨_, rfl⟩
  rw [hnn] at hm hn5 ⊢
  have HN := Lib.hid hnn
  have HC := Lib.hid hc
  clear hnn hc
  go_enter Try.func65, Try.ntmps65
  go_wp2_with fail
  go_loopw [2, 7] (fun s i wr => ∃ (j : Nat) (a : Int), j ≤ m ∧ i = .int .i64 j ∧ s = .int .i64 a ∧ Hid (prodT (q.take j) = a) ∧ (-(j * 2199023255552 : Int) ≤ a ∧ a ≤ j * 2199023255552) ∧ Below w.heap.size w wr) (fun _ i _ => m - (intOf i).toNat)
  case atStart => exact ⟨0, 0, by omega, rfl, rfl, rfl, by omega, Below.refl _ _⟩
  case round =>
    obtain ⟨j, a, hj, rfl, rfl, hsum, hab, hb⟩ := hrel
    by_cases hlt : j < m
    · have hjl : j < q.length := by rw [HN.out]; exact hlt
      obtain ⟨q0, q1⟩ := HC.out j hjl
      have q0 := (hb.cell hg).trans q0
      have q1 := (hb.cell hg).trans q1
      have htk := prodT_take q hjl
      have hx := hbd.out q[j] (List.getElem_mem hjl)
      obtain ⟨y, hy⟩ : ∃ y, q[j] = y := ⟨_, rfl⟩
      rw [hy] at q0 q1 htk hx
      obtain ⟨y0, y1⟩ := y
      dsimp only at q0 q1 htk hx
      rw [hsum.out] at htk
      have htk := Lib.hid htk
      have hp := mul_bd (A := 1048576) (B := 2097152) hx.1 hx.2
      obtain ⟨p, hpe⟩ : ∃ p, y0 * y1 = p := ⟨_, rfl⟩
      rw [hpe] at hp htk
      have hP := Lib.hid hpe
      clear hy hpe hx
      go_wp2
      have e1 : wrap64 (y0 * y1) = p := by rw [hP.out]; unfold wrap64; omega
      have e2 : wrap64 (a + p) = a + p := by unfold wrap64; omega
      refine ⟨⟨j + 1, a + p, by omega, by go_num, by rw [e1, e2], htk.out, by omega, hb.alloc (by have := hb.size; omega) _⟩, by simp [intOf]; omega⟩
    · obtain rfl : j = m := by omega
      have hF : a = t := by
        have := hsum.out
        rw [← HN.out, List.take_length] at this
        rw [← this]
        exact ht.out
      go_wp2
      go_ret
      subst hF
      exact ⟨rfl, hb⟩
end Go.Proofs.Ytancngachnpefaa
namespace Go.Proofs.Ytancngachnpefaa
open Go.RowKit
def inP (s : St) (x : Iq) : Bool := decide (x.sum s ≤ x.most)
theorem inB_inP (b : List Iq) (s : St) : inB b s = b.all (inP s) := rfl
theorem sum_prodT (x : Iq) (s : St) : prodT [(x.level, s.level), (x.position, s.position), (x.pipe, s.p0 + s.p1), (x.order, s.order), (x.age, s.age)] = x.sum s := by
  simp only [prodT, Iq.sum, List.map_cons, List.map_nil, List.sum_cons, List.sum_nil]
  omega
theorem bIn_any (b : List Iq) (s : St) (v : Value) (w : World) (t : Bool) (ht : Hid (inB b s = t)) (hQ : BarAt w w.heap.size v b)
    (hok : Hid (∀ x ∈ b, x.okB = true)) (hs : Hid (s.numsB = true)) :
    Calls Try.prog 36 #[v, s.v] w fun e w' => e = .returned (.bool t) ∧ Below w.heap.size w w' := by
  obtain ⟨A, c, rfl, hm⟩ := hQ.form
  unfold maxLen at hm
  obtain ⟨m, hnn⟩ : ∃ m, b.length = m := ⟨_, rfl⟩
  rw [hnn] at hm hQ ⊢
  have HN := Lib.hid hnn
  have HQ := Lib.hid hQ
  clear hnn hQ
  obtain ⟨s0, s1, s2, s3, s4, s5⟩ := s
  go_enter Try.func36, Try.ntmps36
  go_wp2_with fail
  have Y := Box.new w [.int .i64 s0, .int .i64 s1, .int .i64 s2, .int .i64 s3, .int .i64 s4, .int .i64 s5] 30
  have hb0 := (Below.refl w.heap.size w).alloc (Nat.le_refl _) (.cells #[.int .i64 s0, .int .i64 s1, .int .i64 s2, .int .i64 s3, .int .i64 s4, .int .i64 s5] 30)
  generalize w.alloc (.cells #[.int .i64 s0, .int .i64 s1, .int .i64 s2, .int .i64 s3, .int .i64 s4, .int .i64 s5] 30) = W at Y hb0 ⊢
  go_loopw [10] (fun i wr => ∃ j : Nat, j ≤ m ∧ i = .int .i64 j ∧ Below W.heap.size W wr ∧ Hid ((b.take j).all (inP ⟨s0, s1, s2, s3, s4, s5⟩) = true)) (fun i _ => m - (intOf i).toNat)
  case atStart => exact ⟨0, by omega, rfl, Below.refl _ _, rfl⟩
  case round =>
    obtain ⟨j, hj, rfl, hb, hall⟩ := hrel
    have hbw := hb0.trans (hb.mono hb0.size)
    by_cases hlt : j < m
    · have hjl : j < b.length := by rw [HN.out]; exact hlt
      have HQ' := HQ.out
      rw [← HN.out] at HQ'
      obtain ⟨g, off, rfl, hg, c0, c1, c2, c3, c4, c5⟩ := HQ'.ineq hjl
      have c0 := (hbw.cell hg).trans c0
      have c1 := (hbw.cell hg).trans c1
      have c2 := (hbw.cell hg).trans c2
      have c3 := (hbw.cell hg).trans c3
      have c4 := (hbw.cell hg).trans c4
      have c5 := (hbw.cell hg).trans c5
      have htk := bTake b (inP ⟨s0, s1, s2, s3, s4, s5⟩) hjl
      have hbad := bBad (f := inP ⟨s0, s1, s2, s3, s4, s5⟩) hjl
      have hx := hok.out b[j] (List.getElem_mem hjl)
      obtain ⟨y, hy⟩ : ∃ y, b[j] = y := ⟨_, rfl⟩
      rw [hy] at c0 c1 c2 c3 c4 c5 htk hbad hx
      obtain ⟨y0, y1, y2, y3, y4, y5⟩ := y
      dsimp only at c0 c1 c2 c3 c4 c5
      rw [hall.out, Bool.true_and] at htk
      have htk := Lib.hid htk
      have hbad := Lib.hid hbad
      have hx := Lib.hid hx
      have hb2 := hb.alloc (by have := hb.size; omega) (.cells #[.int .i64 y0, .int .i64 y1, .int .i64 y2, .int .i64 y3, .int .i64 y4, .int .i64 y5] 71)
      have a0 : (wr.alloc (.cells #[.int .i64 y0, .int .i64 y1, .int .i64 y2, .int .i64 y3, .int .i64 y4, .int .i64 y5] 71)).cell? ⟨w.heap.size, 0, none⟩ = some (.int .i64 s0) := (hb2.cell Y.lt).trans (Y.cell 0)
      have a1 : (wr.alloc (.cells #[.int .i64 y0, .int .i64 y1, .int .i64 y2, .int .i64 y3, .int .i64 y4, .int .i64 y5] 71)).cell? ⟨w.heap.size, 1, none⟩ = some (.int .i64 s1) := (hb2.cell Y.lt).trans (Y.cell 1)
      have a2 : (wr.alloc (.cells #[.int .i64 y0, .int .i64 y1, .int .i64 y2, .int .i64 y3, .int .i64 y4, .int .i64 y5] 71)).cell? ⟨w.heap.size, 2, none⟩ = some (.int .i64 s2) := (hb2.cell Y.lt).trans (Y.cell 2)
      have a3 : (wr.alloc (.cells #[.int .i64 y0, .int .i64 y1, .int .i64 y2, .int .i64 y3, .int .i64 y4, .int .i64 y5] 71)).cell? ⟨w.heap.size, 3, none⟩ = some (.int .i64 s3) := (hb2.cell Y.lt).trans (Y.cell 3)
      have a4 : (wr.alloc (.cells #[.int .i64 y0, .int .i64 y1, .int .i64 y2, .int .i64 y3, .int .i64 y4, .int .i64 y5] 71)).cell? ⟨w.heap.size, 4, none⟩ = some (.int .i64 s4) := (hb2.cell Y.lt).trans (Y.cell 4)
      have a5 : (wr.alloc (.cells #[.int .i64 y0, .int .i64 y1, .int .i64 y2, .int .i64 y3, .int .i64 y4, .int .i64 y5] 71)).cell? ⟨w.heap.size, 5, none⟩ = some (.int .i64 s5) := (hb2.cell Y.lt).trans (Y.cell 5)
      clear hy HQ'
      go_wp2_with fail
      have hx' := hx.out
      have hs' := hs.out
      simp only [Iq.okB, St.numsB, inI, Bool.and_eq_true, decide_eq_true_eq] at hx' hs'
      have he : wrap64 (s2 + s3) = s2 + s3 := by unfold wrap64; omega
      rw [he]
      have hpb : Hid (∀ x ∈ [(y0, s0), (y1, s1), (y2, s2 + s3), (y3, s4), (y4, s5)], (-1048576 ≤ x.1 ∧ x.1 ≤ 1048576) ∧ -2097152 ≤ x.2 ∧ x.2 ≤ 2097152) := by
        intro x hxm
        simp only [List.mem_cons, List.not_mem_nil, or_false] at hxm
        rcases hxm with rfl | rfl | rfl | rfl | rfl <;> (dsimp only; omega)
      have X := Box.new wr [.int .i64 y0, .int .i64 y1, .int .i64 y2, .int .i64 y3, .int .i64 y4, .int .i64 y5] 71
      have hsz : wr.heap.size + 1 = (wr.alloc (.cells #[.int .i64 y0, .int .i64 y1, .int .i64 y2, .int .i64 y3, .int .i64 y4, .int .i64 y5] 71)).heap.size := by
        show _ = (wr.heap.push _).size
        simp
      generalize wr.alloc (.cells #[.int .i64 y0, .int .i64 y1, .int .i64 y2, .int .i64 y3, .int .i64 y4, .int .i64 y5] 71) = W2 at hb2 X hsz a0 a1 a2 a3 a4 a5 ⊢
      have Z := Box.newAt (w := W2) [.int .i64 y0, .int .i64 s0, .int .i64 y1, .int .i64 s1, .int .i64 y2, .int .i64 (s2 + s3), .int .i64 y3, .int .i64 s4, .int .i64 y4, .int .i64 s5] 28 hsz
      have hb3 := (Below.refl W2.heap.size W2).alloc (Nat.le_refl _) (.cells #[.int .i64 y0, .int .i64 s0, .int .i64 y1, .int .i64 s1, .int .i64 y2, .int .i64 (s2 + s3), .int .i64 y3, .int .i64 s4, .int .i64 y4, .int .i64 s5] 28)
      refine (bProduct_any [(y0, s0), (y1, s1), (y2, s2 + s3), (y3, s4), (y4, s5)] _ _ _ (sum_prodT ⟨y0, y1, y2, y3, y4, y5⟩ ⟨s0, s1, s2, s3, s4, s5⟩) (by simp) ⟨wr.heap.size + 1, 0, 5, rfl, by simp [maxLen], Z.lt, ?_⟩ hpb).mono ?_
      · intro k hk
        have hk5 : k < 5 := hk
        rcases (show k = 0 ∨ k = 1 ∨ k = 2 ∨ k = 3 ∨ k = 4 by omega) with rfl | rfl | rfl | rfl | rfl
        · exact ⟨Z.cell 0, Z.cell 1⟩
        · exact ⟨Z.cell 2, Z.cell 3⟩
        · exact ⟨Z.cell 4, Z.cell 5⟩
        · exact ⟨Z.cell 6, Z.cell 7⟩
        · exact ⟨Z.cell 8, Z.cell 9⟩
      rintro e w1 ⟨rfl, hb4⟩
      have hb5 := hb3.trans (hb4.mono hb3.size)
      have hb6 := hb2.trans (hb5.mono hb2.size)
      have x5 : w1.cell? ⟨wr.heap.size, 5, none⟩ = some (.int .i64 y5) := (hb5.cell X.lt).trans (X.cell 5)
      rcases hh : inP ⟨s0, s1, s2, s3, s4, s5⟩ ⟨y0, y1, y2, y3, y4, y5⟩ with _ | _
      · have hF : t = false := by
          rw [← ht.out, inB_inP]
          exact hbad.out hh
        have hd := of_decide_eq_false hh
        generalize Iq.sum ⟨y0, y1, y2, y3, y4, y5⟩ ⟨s0, s1, s2, s3, s4, s5⟩ = sm at hd ⊢
        have _hd : decide (y5 < sm) = true := decide_eq_true (by dsimp only at hd; omega)
        go_wp2
        go_ret
        subst hF
        exact ⟨rfl, hb0.trans (hb6.mono hb0.size)⟩
      · have hd := of_decide_eq_true hh
        generalize Iq.sum ⟨y0, y1, y2, y3, y4, y5⟩ ⟨s0, s1, s2, s3, s4, s5⟩ = sm at hd ⊢
        have _hd : decide (y5 < sm) = false := decide_eq_false (by dsimp only at hd; omega)
        go_wp2
        refine ⟨⟨j + 1, by omega, by go_num, hb6, ?_⟩, by simp [intOf]; omega⟩
        rw [Hid, htk.out]
        exact hh
    · obtain rfl : j = m := by omega
      have hF : t = true := by
        have := hall.out
        rw [← HN.out, List.take_length] at this
        rw [← ht.out, inB_inP]
        exact this
      go_wp2
      go_ret
      subst hF
      exact ⟨rfl, hbw⟩
end Go.Proofs.Ytancngachnpefaa
namespace Go.Proofs.Ytancngachnpefaa
open Go.RowKit
theorem iq_smB (x : Iq) : [x.level, x.position, x.pipe, x.order, x.age, x.most].all smB = x.okB := by
  simp [smB, Iq.okB]
theorem bCheck_any (b : List Iq) (v : Value) (w : World) (t : Int) (ht : Hid (barT b = t)) (hQ : BarAt w w.heap.size v b) :
    Calls Try.prog 34 #[v] w fun e w' => e = .returned (.int .i64 t) ∧ Below w.heap.size w w' := by
  obtain ⟨A, c, rfl, hm⟩ := hQ.form
  unfold maxLen at hm
  obtain ⟨m, hnn⟩ : ∃ m, b.length = m := ⟨_, rfl⟩
  rw [hnn] at hm hQ ⊢
  have HN := Lib.hid hnn
  have HQ := Lib.hid hQ
  clear hnn hQ
  by_cases h16 : 16 < m
  · have _hd : decide ((16 : Int) < (m : Int)) = true := decide_eq_true (by omega)
    have hF : t = 2 := by
      rw [← ht.out, barT, HN.out, if_neg (by omega)]
    go_enter Try.func34, Try.ntmps34
    go_wp2
    go_ret
    subst hF
    exact ⟨rfl, Below.refl _ _⟩
  have _hd : decide ((16 : Int) < (m : Int)) = false := decide_eq_false (by omega)
  have hT : Hid (t = if b.all Iq.okB = true then 0 else 330) := by
    rw [Hid, ← ht.out, barT, HN.out, if_pos (by omega)]
  go_enter Try.func34, Try.ntmps34
  go_wp2_with fail
  go_loopw [10] (fun i wr => ∃ j : Nat, j ≤ m ∧ i = .int .i64 j ∧ Below w.heap.size w wr ∧ Hid ((b.take j).all Iq.okB = true)) (fun i _ => m - (intOf i).toNat)
  case atStart => exact ⟨0, by omega, rfl, Below.refl _ _, rfl⟩
  case round =>
    obtain ⟨j, hj, rfl, hb, hall⟩ := hrel
    by_cases hlt : j < m
    · have hjl : j < b.length := by rw [HN.out]; exact hlt
      have HQ' := HQ.out
      rw [← HN.out] at HQ'
      obtain ⟨g, off, rfl, hg, c0, c1, c2, c3, c4, c5⟩ := HQ'.ineq hjl
      have c0 := (hb.cell hg).trans c0
      have c1 := (hb.cell hg).trans c1
      have c2 := (hb.cell hg).trans c2
      have c3 := (hb.cell hg).trans c3
      have c4 := (hb.cell hg).trans c4
      have c5 := (hb.cell hg).trans c5
      have htk := bTake b Iq.okB hjl
      have hbad := bBad (f := Iq.okB) hjl
      obtain ⟨y, hy⟩ : ∃ y, b[j] = y := ⟨_, rfl⟩
      rw [hy] at c0 c1 c2 c3 c4 c5 htk hbad
      obtain ⟨y0, y1, y2, y3, y4, y5⟩ := y
      dsimp only at c0 c1 c2 c3 c4 c5
      rw [hall.out, Bool.true_and] at htk
      have htk := Lib.hid htk
      have hbad := Lib.hid hbad
      clear hy HQ'
      go_wp2_with fail
      have hsz : wr.heap.size + 1 = (wr.alloc (.cells #[.int .i64 y0, .int .i64 y1, .int .i64 y2, .int .i64 y3, .int .i64 y4, .int .i64 y5] 71)).heap.size := by
        show _ = (wr.heap.push _).size
        simp
      have hb2 := hb.alloc hb.size (.cells #[.int .i64 y0, .int .i64 y1, .int .i64 y2, .int .i64 y3, .int .i64 y4, .int .i64 y5] 71)
      generalize wr.alloc (.cells #[.int .i64 y0, .int .i64 y1, .int .i64 y2, .int .i64 y3, .int .i64 y4, .int .i64 y5] 71) = W2 at hb2 hsz ⊢
      have Z := Box.newAt (w := W2) [.int .i64 y0, .int .i64 y1, .int .i64 y2, .int .i64 y3, .int .i64 y4, .int .i64 y5] 3 hsz
      have hb3 := hb2.alloc hb2.size (.cells #[.int .i64 y0, .int .i64 y1, .int .i64 y2, .int .i64 y3, .int .i64 y4, .int .i64 y5] 3)
      refine (bRight_any [y0, y1, y2, y3, y4, y5] _ _ _ (iq_smB ⟨y0, y1, y2, y3, y4, y5⟩) ⟨wr.heap.size + 1, 0, 6, rfl, by simp [maxLen], Z.lt, ?_⟩).mono ?_
      · intro k hk
        have hk6 : k < 6 := hk
        rcases (show k = 0 ∨ k = 1 ∨ k = 2 ∨ k = 3 ∨ k = 4 ∨ k = 5 by omega) with rfl | rfl | rfl | rfl | rfl | rfl
        · exact Z.cell 0
        · exact Z.cell 1
        · exact Z.cell 2
        · exact Z.cell 3
        · exact Z.cell 4
        · exact Z.cell 5
      rintro e w1 ⟨rfl, rfl⟩
      rcases hh : Iq.okB ⟨y0, y1, y2, y3, y4, y5⟩ with _ | _
      · have hF : t = 330 := by
          rw [hT.out, hbad.out hh]
          rfl
        go_wp2
        go_ret
        subst hF
        exact ⟨rfl, hb3⟩
      · go_wp2
        refine ⟨⟨j + 1, by omega, by go_num, hb3, ?_⟩, by simp [intOf]; omega⟩
        rw [Hid, htk.out]
        exact hh
    · obtain rfl : j = m := by omega
      have hF : t = 0 := by
        have := hall.out
        rw [← HN.out, List.take_length] at this
        rw [hT.out, this]
        rfl
      go_wp2
      go_ret
      subst hF
      exact ⟨rfl, hb⟩
end Go.Proofs.Ytancngachnpefaa
namespace Go.Proofs.Ytancngachnpefaa
open Go.RowKit
theorem min_if (x y : Int) : (if y < x then y else x) = min x y := by
  rw [Int.min_def]
  split <;> split <;> omega
@[go_sem high] theorem run_min6 {P : Program} (w : World) (ts : Array TypeId) (t : TypeId) (k : IntKind) (a b c d e f : Int) :
    (Builtin.min_ ts t #[.int k a, .int k b, .int k c, .int k d, .int k e, .int k f]).run P w = .ok (.int k (min (min (min (min (min a b) c) d) e) f)) w := by
  simp [Builtin.min_, Builtin.min2, min_if]
theorem barT_ok {b : List Iq} (h : barT b = 0) : ∀ x ∈ b, x.okB = true := by
  unfold barT at h
  split at h
  · split at h
    · rename_i h2
      exact List.all_eq_true.1 h2
    · omega
  · omega
theorem bHolds_bad (b : List Iq) (s : St) (v : Value) (w : World) (t : Int) (ht : Hid (barT b = t)) (h0 : t ≠ 0) (hQ : BarAt w w.heap.size v b) :
    Calls Try.prog 12 #[v, s.v] w fun e w' => e = .returned (.tuple #[.bool false, .int .i64 t]) ∧ Below w.heap.size w w' := by
  obtain ⟨s0, s1, s2, s3, s4, s5⟩ := s
  have hb0 := (Below.refl w.heap.size w).alloc (Nat.le_refl _) (.cells #[.int .i64 s0, .int .i64 s1, .int .i64 s2, .int .i64 s3, .int .i64 s4, .int .i64 s5] 30)
  have HQ := Lib.hid (hQ.later hb0)
  clear hQ
  go_enter Try.func12, Try.ntmps12
  go_wp2_with fail
  generalize w.alloc (.cells #[.int .i64 s0, .int .i64 s1, .int .i64 s2, .int .i64 s3, .int .i64 s4, .int .i64 s5] 30) = W at HQ hb0 ⊢
  refine (bCheck_any b v W t ht HQ.out).mono ?_
  rintro e w1 ⟨rfl, hb1⟩
  have _hd : (t == 0) = false := by simp [h0]
  go_wp2
  go_ret2
  exact ⟨rfl, hb0.trans (hb1.mono hb0.size)⟩
theorem bHolds_in (b : List Iq) (s : St) (v : Value) (w : World) (t : Bool) (h0 : Hid (barT b = 0)) (hs : Hid (s.numsB = true)) (ht : Hid (inB b s = t)) (hQ : BarAt w w.heap.size v b) :
    Calls Try.prog 12 #[v, s.v] w fun e w' => e = .returned (.tuple #[.bool t, .int .i64 0]) ∧ Below w.heap.size w w' := by
  obtain ⟨s0, s1, s2, s3, s4, s5⟩ := s
  have hb0 := (Below.refl w.heap.size w).alloc (Nat.le_refl _) (.cells #[.int .i64 s0, .int .i64 s1, .int .i64 s2, .int .i64 s3, .int .i64 s4, .int .i64 s5] 30)
  have Y := Box.new w [.int .i64 s0, .int .i64 s1, .int .i64 s2, .int .i64 s3, .int .i64 s4, .int .i64 s5] 30
  have HQ := Lib.hid (hQ.later hb0)
  clear hQ
  go_enter Try.func12, Try.ntmps12
  go_wp2_with fail
  generalize w.alloc (.cells #[.int .i64 s0, .int .i64 s1, .int .i64 s2, .int .i64 s3, .int .i64 s4, .int .i64 s5] 30) = W at HQ hb0 Y ⊢
  refine (bCheck_any b v W 0 h0 HQ.out).mono ?_
  rintro e w1 ⟨rfl, hb1⟩
  have HQ1 := Lib.hid ((HQ.out.below hb1).more hb1.size)
  have a0 : w1.cell? ⟨w.heap.size, 0, none⟩ = some (.int .i64 s0) := (hb1.cell Y.lt).trans (Y.cell 0)
  have a1 : w1.cell? ⟨w.heap.size, 1, none⟩ = some (.int .i64 s1) := (hb1.cell Y.lt).trans (Y.cell 1)
  have a2 : w1.cell? ⟨w.heap.size, 2, none⟩ = some (.int .i64 s2) := (hb1.cell Y.lt).trans (Y.cell 2)
  have a3 : w1.cell? ⟨w.heap.size, 3, none⟩ = some (.int .i64 s3) := (hb1.cell Y.lt).trans (Y.cell 3)
  have a4 : w1.cell? ⟨w.heap.size, 4, none⟩ = some (.int .i64 s4) := (hb1.cell Y.lt).trans (Y.cell 4)
  have a5 : w1.cell? ⟨w.heap.size, 5, none⟩ = some (.int .i64 s5) := (hb1.cell Y.lt).trans (Y.cell 5)
  have hs' := hs.out
  simp only [St.numsB, inI, Bool.and_eq_true, decide_eq_true_eq] at hs'
  have hsm : Hid ([s0, s1, s2, s3, s4, s5].all smB = true) := by
    simp [Hid, smB, inI]
    omega
  have _hn : ¬ (min s0 (min s1 (min s2 (min s3 (min s4 s5)))) < 0) := by omega
  have _hd : decide (min s0 (min s1 (min s2 (min s3 (min s4 s5)))) < 0) = false := decide_eq_false _hn
  clear hs'
  go_wp2_with fail
  have Z := Box.new w1 [.int .i64 s0, .int .i64 s1, .int .i64 s2, .int .i64 s3, .int .i64 s4, .int .i64 s5] 3
  have hb2 := (Below.refl w1.heap.size w1).alloc (Nat.le_refl _) (.cells #[.int .i64 s0, .int .i64 s1, .int .i64 s2, .int .i64 s3, .int .i64 s4, .int .i64 s5] 3)
  refine (bRight_any [s0, s1, s2, s3, s4, s5] _ _ _ hsm ⟨w1.heap.size, 0, 6, rfl, by simp [maxLen], Z.lt, ?_⟩).mono ?_
  · intro k hk
    have hk6 : k < 6 := hk
    rcases (show k = 0 ∨ k = 1 ∨ k = 2 ∨ k = 3 ∨ k = 4 ∨ k = 5 by omega) with rfl | rfl | rfl | rfl | rfl | rfl
    · exact Z.cell 0
    · exact Z.cell 1
    · exact Z.cell 2
    · exact Z.cell 3
    · exact Z.cell 4
    · exact Z.cell 5
  rintro e w2 ⟨rfl, rfl⟩
  have hl : w.heap.size < w1.heap.size := Nat.lt_of_lt_of_le Y.lt hb1.size
  have a0 := (hb2.cell hl).trans a0
  have a1 := (hb2.cell hl).trans a1
  have a2 := (hb2.cell hl).trans a2
  have a3 := (hb2.cell hl).trans a3
  have a4 := (hb2.cell hl).trans a4
  have a5 := (hb2.cell hl).trans a5
  have HQ2 := Lib.hid ((HQ1.out.below hb2).more hb2.size)
  have hb3 := hb0.trans ((hb1.trans (hb2.mono hb1.size)).mono hb0.size)
  generalize w1.alloc (.cells #[.int .i64 s0, .int .i64 s1, .int .i64 s2, .int .i64 s3, .int .i64 s4, .int .i64 s5] 3) = W3 at HQ2 hb3 a0 a1 a2 a3 a4 a5 ⊢
  go_wp2_with fail
  refine (bIn_any b ⟨s0, s1, s2, s3, s4, s5⟩ v W3 t ht HQ2.out (barT_ok h0.out) hs).mono ?_
  rintro e w4 ⟨rfl, hb4⟩
  go_wp2
  go_ret2
  exact ⟨rfl, hb3.trans (hb4.mono hb3.size)⟩
end Go.Proofs.Ytancngachnpefaa
namespace Go.Proofs.Ytancngachnpefaa
open Go.RowKit
theorem bHolds_out (b : List Iq) (s : St) (v : Value) (w : World) (h0 : Hid (barT b = 0)) (hs : Hid (s.numsB = false)) (hQ : BarAt w w.heap.size v b) :
    Calls Try.prog 12 #[v, s.v] w fun e w' => e = .returned (.tuple #[.bool false, .int .i64 1]) ∧ Below w.heap.size w w' := by
  obtain ⟨s0, s1, s2, s3, s4, s5⟩ := s
  have hb0 := (Below.refl w.heap.size w).alloc (Nat.le_refl _) (.cells #[.int .i64 s0, .int .i64 s1, .int .i64 s2, .int .i64 s3, .int .i64 s4, .int .i64 s5] 30)
  have Y := Box.new w [.int .i64 s0, .int .i64 s1, .int .i64 s2, .int .i64 s3, .int .i64 s4, .int .i64 s5] 30
  have HQ := Lib.hid (hQ.later hb0)
  clear hQ
  go_enter Try.func12, Try.ntmps12
  go_wp2_with fail
  generalize w.alloc (.cells #[.int .i64 s0, .int .i64 s1, .int .i64 s2, .int .i64 s3, .int .i64 s4, .int .i64 s5] 30) = W at HQ hb0 Y ⊢
  refine (bCheck_any b v W 0 h0 HQ.out).mono ?_
  rintro e w1 ⟨rfl, hb1⟩
  have HQ1 := Lib.hid ((HQ.out.below hb1).more hb1.size)
  have a0 : w1.cell? ⟨w.heap.size, 0, none⟩ = some (.int .i64 s0) := (hb1.cell Y.lt).trans (Y.cell 0)
  have a1 : w1.cell? ⟨w.heap.size, 1, none⟩ = some (.int .i64 s1) := (hb1.cell Y.lt).trans (Y.cell 1)
  have a2 : w1.cell? ⟨w.heap.size, 2, none⟩ = some (.int .i64 s2) := (hb1.cell Y.lt).trans (Y.cell 2)
  have a3 : w1.cell? ⟨w.heap.size, 3, none⟩ = some (.int .i64 s3) := (hb1.cell Y.lt).trans (Y.cell 3)
  have a4 : w1.cell? ⟨w.heap.size, 4, none⟩ = some (.int .i64 s4) := (hb1.cell Y.lt).trans (Y.cell 4)
  have a5 : w1.cell? ⟨w.heap.size, 5, none⟩ = some (.int .i64 s5) := (hb1.cell Y.lt).trans (Y.cell 5)
  by_cases hn : min s0 (min s1 (min s2 (min s3 (min s4 s5)))) < 0
  · have _hd : decide (min s0 (min s1 (min s2 (min s3 (min s4 s5)))) < 0) = true := decide_eq_true hn
    go_wp2
    go_ret2
    exact ⟨rfl, hb0.trans (hb1.mono hb0.size)⟩
  have hsm : Hid ([s0, s1, s2, s3, s4, s5].all smB = false) := by
    have hs' := hs.out
    rw [Bool.eq_false_iff] at hs'
    rw [Hid, Bool.eq_false_iff]
    intro hh
    apply hs'
    simp [smB, inI] at hh
    simp [St.numsB, inI]
    omega
  have _hd : decide (min s0 (min s1 (min s2 (min s3 (min s4 s5)))) < 0) = false := decide_eq_false hn
  go_wp2_with fail
  have Z := Box.new w1 [.int .i64 s0, .int .i64 s1, .int .i64 s2, .int .i64 s3, .int .i64 s4, .int .i64 s5] 3
  have hb2 := (Below.refl w1.heap.size w1).alloc (Nat.le_refl _) (.cells #[.int .i64 s0, .int .i64 s1, .int .i64 s2, .int .i64 s3, .int .i64 s4, .int .i64 s5] 3)
  refine (bRight_any [s0, s1, s2, s3, s4, s5] _ _ _ hsm ⟨w1.heap.size, 0, 6, rfl, by simp [maxLen], Z.lt, ?_⟩).mono ?_
  · intro k hk
    have hk6 : k < 6 := hk
    rcases (show k = 0 ∨ k = 1 ∨ k = 2 ∨ k = 3 ∨ k = 4 ∨ k = 5 by omega) with rfl | rfl | rfl | rfl | rfl | rfl
    · exact Z.cell 0
    · exact Z.cell 1
    · exact Z.cell 2
    · exact Z.cell 3
    · exact Z.cell 4
    · exact Z.cell 5
  rintro e w2 ⟨rfl, rfl⟩
  have hb3 := hb0.trans ((hb1.trans (hb2.mono hb1.size)).mono hb0.size)
  go_wp2
  go_ret2
  exact ⟨rfl, hb3⟩
end Go.Proofs.Ytancngachnpefaa
namespace Go.Proofs.Ytancngachnpefaa
open Go.RowKit
theorem bHolds_is {b : List Iq} {s : St} {v : Value} {w : World} {t : Bool} {er : Int} (h : Hid (holdsT b s = (t, er))) (hQ : BarAt w w.heap.size v b) :
    Calls Try.prog 12 #[v, s.v] w fun e w' => e = .returned (.tuple #[.bool t, .int .i64 er]) ∧ Below w.heap.size w w' := by
  have h := h.out
  unfold holdsT at h
  by_cases h0 : barT b = 0
  · rw [if_pos h0] at h
    rcases hn : s.numsB with _ | _
    · rw [if_neg (by rw [hn]; decide)] at h
      simp only [Prod.mk.injEq] at h
      obtain ⟨rfl, rfl⟩ := h
      exact bHolds_out b s v w h0 hn hQ
    · rw [if_pos hn] at h
      simp only [Prod.mk.injEq] at h
      obtain ⟨h1, rfl⟩ := h
      exact bHolds_in b s v w t h0 hn h1 hQ
  · rw [if_neg h0] at h
    simp only [Prod.mk.injEq] at h
    obtain ⟨rfl, h2⟩ := h
    exact bHolds_bad b s v w er h2 (by omega) hQ
end Go.Proofs.Ytancngachnpefaa
