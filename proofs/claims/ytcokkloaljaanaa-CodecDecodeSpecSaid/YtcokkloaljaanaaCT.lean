/-
  Contracts of the reader's want and take. No condition.
-/
import Derived.Test.YtcokkloaljaanaaCS
namespace Go.Proofs.Ytcokkloaljaanaa
open Go.RowKit

/-- The panic of want. -/
def bad : List PanicEntry := [{ v := .iface 28 (.int .i64 10), recovered := false }]
theorem want_yes (p : Value) (w : World) : Calls Try.prog 33 #[p, .bool true] w fun e w' => e = .returned (.tuple #[]) ∧ w = w' := by
  go_enter Try.func33, Try.ntmps33
  go_wp2
  go_end0
  exact ⟨rfl, rfl⟩
theorem want_no (p : Value) (w : World) : Calls Try.prog 33 #[p, .bool false] w fun e w' => e = .panicked bad ∧ w = w' := by
  go_enter Try.func33, Try.ntmps33
  go_wp2
  exact ⟨rfl, rfl, rfl⟩

/-- The reader in block rb holds the bytes l. -/
def RdAt (w : World) (D rb : Nat) (l : Bs) : Prop := ∃ A c, Box w rb [.slice A l.length c] ∧ BsAt w (fun b => b < D ∧ b ≠ rb) (.slice A l.length c) l
/-- The head of a slice of bytes, with no room behind it, and the rest. -/
theorem BsAt.part {w : World} {S : Nat → Prop} {b : Addr} {n c : Nat} {l : Bs} (h : BsAt w S (.slice (some b) n c) l) (k : Nat) (hk : k ≤ n) : BsAt w S (.slice (some b) k k) (l.take k) := by
  obtain ⟨hf, A, c', hv, hm, h1⟩ := h
  cases hv
  refine ⟨.inr ⟨_, _, _, rfl, Nat.le_refl _, by omega⟩, some b, k, by rw [List.length_take]; congr 1; omega, by rw [List.length_take]; omega, fun i hi => ?_⟩
  rw [List.length_take] at hi
  obtain ⟨b', off, hb, hS, hlt, h2⟩ := h1 i (by omega)
  refine ⟨b', off, hb, hS, hlt, fun j hj => ?_⟩
  rw [h2 j hj]
  simp only [List.getD_eq_getElem?_getD, List.getElem?_take, if_pos (show i < k by omega)]
theorem BsAt.rest {w : World} {S : Nat → Prop} {b off n c : Nat} {l : Bs} (h : BsAt w S (.slice (some ⟨b, off, none⟩) n c) l) (k : Nat) (hk : k ≤ n) : BsAt w S (.slice (some ⟨b, off + k, none⟩) (n - k) (c - k)) (l.drop k) := by
  obtain ⟨hf, A, c', hv, hm, h1⟩ := h
  cases hv
  have hc : l.length ≤ c ∧ c ≤ maxLen := by
    rcases hf with h | ⟨a, n', c', h, h3, h4⟩
    · cases h
    · injection h with _ h5 h6; omega
  refine ⟨.inr ⟨_, _, _, rfl, by omega, by omega⟩, some ⟨b, off + k, none⟩, c - k, by rw [List.length_drop], by rw [List.length_drop]; omega, fun i hi => ?_⟩
  rw [List.length_drop] at hi
  obtain ⟨b', off', hb, hS, hlt, h2⟩ := h1 (i + k) (by omega)
  cases hb
  refine ⟨b, off + k, rfl, hS, hlt, fun j hj => ?_⟩
  have := h2 j hj
  simp only [List.getD_eq_getElem?_getD, List.getElem?_drop]
  rw [Nat.add_comm k i, ← List.getD_eq_getElem?_getD, ← this]
  congr 2
  omega
theorem bsAt_end {w : World} {S : Nat → Prop} {A : Option Addr} (hA : A = none ∨ ∃ a, A = some a) (l : Bs) : BsAt w S (.slice A 0 0) (l.drop l.length) := by
  rw [List.drop_length]
  refine ⟨?_, A, 0, rfl, Nat.zero_le _, fun i hi => by simp at hi⟩
  rcases hA with rfl | ⟨a, rfl⟩
  · exact .inl rfl
  · exact .inr ⟨a, 0, 0, rfl, Nat.le_refl _, Nat.zero_le _⟩
theorem RdAt.keep {w w' : World} {D rb : Nat} {l : Bs} (h : RdAt w D rb l) (hb : Below w.heap.size w w') : RdAt w' D rb l := by
  obtain ⟨A, c, h1, h2⟩ := h
  exact ⟨A, c, h1.later hb, h2.keep (Keeps.of hb)⟩
theorem RdAt.keepG {w w' : World} {D rb : Nat} {l : Bs} {r : Option Nat} (h : RdAt w D rb l) (hg : w.grownBy w' r) (hr : ∀ k, r = some k → D ≤ k ∧ k ≠ rb) : RdAt w' D rb l := by
  obtain ⟨A, c, h1, h2⟩ := h
  refine ⟨A, c, h1.same (hg.block rb h1.lt fun e => (hr rb e.symm).2 rfl), h2.keep ⟨hg.size, fun b hb hl => hg.block b hl fun e => by have := (hr b e.symm).1; omega⟩⟩
theorem RdAt.lt {w : World} {D rb : Nat} {l : Bs} (h : RdAt w D rb l) : rb < w.heap.size := by
  obtain ⟨A, c, h1, _⟩ := h
  exact h1.lt
/-- What a reading function leaves when it fails. -/
def Fails (rb : Nat) (w : World) (e : Ending) (w' : World) : Prop := e = .panicked bad ∧ w.grownBy w' (some rb)
/-- What take returns. -/
def RetTake (l : Bs) (k D rb : Nat) (w : World) (e : Ending) (w' : World) : Prop :=
  ∃ A c, e = .returned (.slice A k c) ∧ BsAt w' (fun b => b < D ∧ b ≠ rb) (.slice A k c) (l.take k) ∧ RdAt w' D rb (l.drop k) ∧ w.grownBy w' (some rb) ∧ w'.heap.size = w.heap.size
theorem grownBy_set {w : World} {a : Addr} (v : Value) : w.grownBy (w.setCell a v) (some a.block) :=
  ⟨rfl, rfl, rfl, by simp, fun k _ hne => Below.heap_setCell w a v k (fun e => hne (by rw [e]))⟩

set_option maxRecDepth 100000 in
set_option maxHeartbeats 2000000 in
theorem take_no (l : Bs) (k D rb : Nat) (w : World) (h : RdAt w D rb l) (hk : l.length < k) : Calls Try.prog 44 #[.pointer (some ⟨rb, 0, none⟩), .int .i64 k] w (Fails rb w) := by
  obtain ⟨A, c, X, hB⟩ := h
  have HR : Hid (Fails rb w (.panicked bad) w) := ⟨rfl, grownBy_refl _ _⟩
  clear hB
  generalize l.length = n at X hk
  have x0 : w.cell? ⟨rb, 0, none⟩ = some (.slice A n c) := X.cell 0
  have hd : decide (k ≤ n) = false := decide_eq_false (by omega)
  go_enter Try.func44, Try.ntmps44
  go_wp2_with fail
  refine (want_no _ _).mono ?_
  rintro e w1 ⟨rfl, rfl⟩
  go_wp2
  exact ⟨rfl, HR.out⟩

theorem take_close {w : World} {D rb n c k : Nat} {a a' : Addr} {l : Bs} {n' c' : Nat} (hB : BsAt w (fun b => b < D ∧ b ≠ rb) (.slice (some a) l.length c) l) (X : Box w rb [.slice (some a) l.length c]) (hsp : l.length ≠ 0 → ∃ b off, a = ⟨b, off, none⟩ ∧ b ≠ rb) (hn : l.length = n) (hk : k ≤ n)
    (h : (k = n ∧ n' = 0 ∧ c' = 0) ∨ Value.slice (some a') n' c' = .slice (some (a.add k)) (n - k) (c - k)) : RetTake l k D rb w (.returned (.slice (some a) k k)) (w.setCell ⟨rb, 0, none⟩ (.slice (some a') n' c')) := by
  subst hn
  have hkp : Keeps (fun b => b < D ∧ b ≠ rb) w (w.setCell ⟨rb, 0, none⟩ (.slice (some a') n' c')) := Keeps.set w (a := ⟨rb, 0, none⟩) (fun h => h.2 rfl) _
  refine ⟨some a, k, rfl, (hB.part k hk).keep hkp, ?_, grownBy_set _, by simp⟩
  rcases h with ⟨rfl, rfl, rfl⟩ | h
  · have hz : (l.drop l.length).length = 0 := by simp
    refine ⟨some a', 0, ?_, ?_⟩
    · rw [hz]
      exact X.set 0 _
    · rw [hz]
      exact bsAt_end (.inr ⟨a', rfl⟩) l
  · injection h with h1 h2 h3
    injection h1 with h1
    subst h1 h2 h3
    have hdl : (l.drop k).length = l.length - k := List.length_drop
    refine ⟨some (a.add k), c - k, ?_, ?_⟩
    · rw [hdl]
      exact X.set 0 _
    · rw [hdl]
      by_cases h0 : l.length = 0
      · have hl : l = [] := List.eq_nil_of_length_eq_zero h0
        subst hl
        have hcc : c ≤ maxLen := by
          rcases hB.1 with h | ⟨a, n', c', h, h3, h4⟩
          · cases h
          · injection h with _ h5 h6; omega
        refine ⟨.inr ⟨a.add k, [].length - k, c - k, rfl, by simp, by omega⟩, some (a.add k), c - k, by simp, by simp, fun i hi => by simp at hi⟩
      · obtain ⟨b, off, rfl, hne⟩ := hsp h0
        rw [add_at] at hkp ⊢
        exact (hB.rest k hk).keep hkp

set_option maxRecDepth 100000 in
set_option maxHeartbeats 2000000 in
theorem take_yes (l : Bs) (k D rb : Nat) (w : World) (h : RdAt w D rb l) (hk : k ≤ l.length) : Calls Try.prog 44 #[.pointer (some ⟨rb, 0, none⟩), .int .i64 k] w (RetTake l k D rb w) := by
  obtain ⟨A, c, X, hB⟩ := h
  obtain ⟨_, _, _, hm⟩ := hB.form
  unfold maxLen at hm
  rcases A with _ | a
  · have h0 : l.length = 0 := hB.2.sl.none_zero.2
    obtain rfl : k = 0 := by omega
    have hc0 : c = 0 := by
      rcases hB.1 with h | ⟨a, n', c', h, _⟩
      · injection h
      · cases h
    subst hc0
    rw [h0] at X
    have hR : RetTake l 0 D rb w (.returned (.slice none 0 0)) (w.setCell ⟨rb, 0, none⟩ (.slice none 0 0)) := by
      have hl : l = [] := List.eq_nil_of_length_eq_zero h0
      subst hl
      exact ⟨none, 0, rfl, bsAt_nil _ _, ⟨none, 0, X.set 0 _, bsAt_nil _ _⟩, grownBy_set _, by simp⟩
    have HR := Lib.hid hR
    have x0 : w.cell? ⟨rb, 0, none⟩ = some (.slice none 0 0) := X.cell 0
    have xf := X.free 0
    have xz := X.lt
    clear hR hB hm hk h0
    go_enter Try.func44, Try.ntmps44
    go_wp2_with fail
    refine (want_yes _ _).mono ?_
    rintro e w1 ⟨rfl, rfl⟩
    go_wp2
    go_ret
    exact HR.out
  · have hsp : l.length ≠ 0 → ∃ b off, a = ⟨b, off, none⟩ ∧ b ≠ rb := by
      intro h0
      obtain ⟨_, A', c', hv, _, h1⟩ := hB
      cases hv
      obtain ⟨b, off, hb, hS, _⟩ := h1 0 (by omega)
      cases hb
      exact ⟨b, off, rfl, hS.2⟩
    have hcc : l.length ≤ c ∧ c ≤ maxLen := by
      rcases hB.1 with h | ⟨a, n', c', h, h3, h4⟩
      · cases h
      · injection h with _ h5 h6; omega
    have hkp : Keeps (fun b => b < D ∧ b ≠ rb) w (w.setCell ⟨rb, 0, none⟩ (.slice (some a) (l.length - k) (c - k))) := Keeps.set w (a := ⟨rb, 0, none⟩) (fun h => h.2 rfl) _
    obtain ⟨hcl, hcm⟩ := hcc
    unfold maxLen at hcm
    have x0 : w.cell? ⟨rb, 0, none⟩ = some (.slice (some a) l.length c) := X.cell 0
    have xf := X.free 0
    have xz := X.lt
    obtain ⟨n, hn⟩ : ∃ n, l.length = n := ⟨_, rfl⟩
    have HB := Lib.hid hB
    have HX := Lib.hid X
    have HN := Lib.hid hn
    have HSP := Lib.hid hsp
    rw [hn] at x0 hk hcl hm
    clear hB X hn hsp hkp
    have h1 : (0 : Int) ≤ (k : Int) := by omega
    have h2 : (k : Int) ≤ (n : Int) := by omega
    have h3 : (k : Int) ≤ (c : Int) := by omega
    have hd : decide (k ≤ n) = true := decide_eq_true hk
    go_enter Try.func44, Try.ntmps44
    go_wp2_with fail
    refine (want_yes _ _).mono ?_
    rintro e w1 ⟨rfl, rfl⟩
    go_wp2
    all_goals
      go_ret
      refine take_close HB.out HX.out HSP.out HN.out hk ?_
      first
        | (exact .inr rfl)
        | (refine .inl ⟨?_, ?_, ?_⟩ <;> omega)

end Go.Proofs.Ytcokkloaljaanaa
