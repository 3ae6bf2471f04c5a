/-
  Contracts of SamePacket, Few, New of the reference and New of network. No condition.
-/
import Derived.Test.YtndjpaiakodciaaNM
import Derived.Laws.BytesArg
namespace Go.Proofs.Ytndjpaiakodciaa
open Go.RowKit

def strB (l : List UInt8) : ByteArray := ⟨l.toArray⟩
theorem strB_inj {l m : List UInt8} : strB l = strB m ↔ l = m := by
  constructor
  · intro h
    have := congrArg (fun x : ByteArray => x.data.toList) h
    simpa [strB] using this
  · rintro rfl; rfl
theorem strOfNums_bytes (l : List UInt8) : strOfNums (l.map fun x => (x.toNat : Int)) = strB l := by
  unfold strOfNums strB
  congr 1
  simp [List.map_map, Function.comp_def]
/-- A slice of bytes as a string. -/
theorem BytesAt.str {w : World} {B : Nat} {v : Value} {l : List UInt8} (h : BytesAt w B v l) : (convert 26 9 v).run Try.prog w = .ok (.string (strB l)) w := by
  obtain ⟨A, c, rfl, hn, h1⟩ := h
  rcases A with _ | a
  · have hl : l = [] := by
      rcases l with _ | ⟨x, l⟩
      · rfl
      · obtain ⟨b, off, e, _⟩ := h1 0 (by simp)
        cases e
    subst hl
    rw [run_convert_bytes_nil w _ _ Try.underlying26 Try.underlying5 _ _ _ Try.underlying9]
    rfl
  · rcases Nat.eq_zero_or_pos l.length with h0 | h0
    · have hl : l = [] := List.eq_nil_of_length_eq_zero h0
      subst hl
      have hl : (loadCells a 0).run Try.prog w = .ok (([] : List Int).map (Value.int .u8)).toArray w := by simpa using run_loadCells_list (P := Try.prog) w a [] (fun j v hj => by simp at hj)
      rw [run_convert_bytes_string w _ _ _ _ _ _ Try.underlying26 Try.underlying5 Try.underlying9, List.length_nil, run_bytesToString w a 0 c [] hl]
      rfl
    · obtain ⟨b, off, e, _⟩ := h1 0 h0
      cases e
      rw [run_convert_bytes_arg w _ _ Try.underlying26 Try.underlying5 b off l.length c (l.map fun x => (x.toNat : Int)) (by simp) (fun i hi => ?_) _ Try.underlying9, strOfNums_bytes]
      obtain ⟨b', off', e', _, h3⟩ := h1 i hi
      cases e'
      have := h3 0 (by omega)
      rw [Nat.mul_one, Nat.add_zero] at this
      rw [this]
      simp [List.getD_eq_getElem?_getD, List.getElem?_eq_getElem hi]

set_option maxHeartbeats 1000000 in
theorem nSamePk_any (p q : Pk) (V U : Value) (w : World) (hV : BytesAt w w.heap.size V p.data) (hU : BytesAt w w.heap.size U q.data) :
    Calls Try.prog 19 #[p.v V, q.v U] w fun e w' => e = .returned (.bool (samePk p q)) ∧ Below w.heap.size w w' := by
  have hb0 := ((Below.refl w.heap.size w).alloc (Nat.le_refl _) (.cells #[.int .i64 p.src, .int .i64 p.dst, V] 28)).alloc (by simp) (.cells #[.int .i64 q.src, .int .i64 q.dst, U] 28)
  have cV := (hV.below hb0).str
  have cU := (hU.below hb0).str
  obtain ⟨A, c, rfl, _⟩ := hV.form
  obtain ⟨A', c', rfl, _⟩ := hU.form
  generalize p.data.length = n1 at *
  generalize q.data.length = n2 at *
  by_cases h1 : p.src = q.src
  · by_cases h2 : p.dst = q.dst
    · have e1 : (p.src == q.src) = true := by simpa using h1
      have e2 : (p.dst == q.dst) = true := by simpa using h2
      have hs : samePk p q = decide (p.data = q.data) := by simp [samePk, h1, h2]
      rw [hs]
      obtain ⟨t, ht⟩ : ∃ t, decide (p.data = q.data) = t := ⟨_, rfl⟩
      have e3 : ((strB p.data).toList == (strB q.data).toList) = t := by
        rw [← ht, Bool.eq_iff_iff, ByteArray.toList_eq, ByteArray.toList_eq]
        simp [strB]
      have e4 : decide (strB p.data = strB q.data) = t := by
        rw [← ht]; exact decide_eq_decide.2 strB_inj
      rw [ht]
      clear hs ht hV hU h1 h2
      generalize strB p.data = s1 at *
      generalize strB q.data = s2 at *
      go_enter Try.func19, Try.ntmps19
      go_wp2
      go_ret
      exact ⟨by first | rfl | simp_all, hb0⟩
    · have e1 : (p.src == q.src) = true := by simpa using h1
      have e2 : (p.dst == q.dst) = false := by simpa using h2
      have hs : samePk p q = false := by simp [samePk, h2]
      rw [hs]
      clear hs hV hU h1 h2 cV cU
      go_enter Try.func19, Try.ntmps19
      go_wp2
      go_ret
      exact ⟨rfl, hb0⟩
  · have e1 : (p.src == q.src) = false := by simpa using h1
    have hs : samePk p q = false := by simp [samePk, h1]
    rw [hs]
    clear hs hV hU h1 cV cU
    go_enter Try.func19, Try.ntmps19
    go_wp2
    go_ret
    exact ⟨rfl, hb0⟩

set_option maxHeartbeats 1000000 in
theorem nFew_any (n : Net) (Vq Va : Value) (w : World) (D : Nat) (hN : NetAt w D Vq Va n) :
    Calls Try.prog 10 #[.agg #[Vq, Va]] w fun e w' => e = .returned (.bool (fewN n)) ∧ Below w.heap.size w w' := by
  obtain ⟨Aq, cq, rfl, hm1⟩ := hN.queue.form
  obtain ⟨Aa, ca, rfl, hm2⟩ := hN.apart.form
  unfold fewN
  generalize n.queue.length = a at *
  generalize n.apart.length = b at *
  unfold maxLen at hm1 hm2
  have hb0 := (Below.refl w.heap.size w).alloc (Nat.le_refl _) (.cells #[.slice Aq a cq, .slice Aa b ca] 25)
  clear hN
  by_cases h : a ≤ 40
  · have e : decide ((a : Int) ≤ 40) = true := by simp; omega
    obtain ⟨t, ht⟩ : ∃ t, decide (b ≤ 40) = t := ⟨_, rfl⟩
    have e2 : decide ((b : Int) ≤ 40) = t := by rw [← ht]; exact decide_eq_decide.2 (by omega)
    have hs : (decide (a ≤ 40) && decide (b ≤ 40)) = t := by simp [h, ht]
    rw [hs]
    clear hs ht
    go_enter Try.func10, Try.ntmps10
    go_wp2
    go_ret
    exact ⟨by first | rfl | simp_all, hb0⟩
  · have e : decide ((a : Int) ≤ 40) = false := by simp; omega
    have hs : (decide (a ≤ 40) && decide (b ≤ 40)) = false := by simp [h]
    rw [hs]
    clear hs
    go_enter Try.func10, Try.ntmps10
    go_wp2
    go_ret
    exact ⟨rfl, hb0⟩

theorem nNew_any (w : World) : Calls Try.prog 16 #[] w fun e w' => e = .returned (.agg #[.slice none 0 0, .slice none 0 0]) ∧ Below w.heap.size w w' := by
  go_enter Try.func16, Try.ntmps16
  go_wp2
  exact bodyPost_ret (v := .agg #[.slice none 0 0, .slice none 0 0]) (by simp [results, Try.results16, go_sem]) rfl ⟨rfl, (Below.refl _ _).alloc (Nat.le_refl _) _⟩
theorem nRNew_any (w : World) : Calls Try.prog 17 #[] w fun e w' => e = .returned (.agg #[.slice none 0 0, .slice none 0 0]) ∧ Below w.heap.size w w' := by
  go_enter Try.func17, Try.ntmps17
  go_wp2
  exact bodyPost_ret (v := .agg #[.slice none 0 0, .slice none 0 0]) (by simp [results, Try.results17, go_sem]) rfl ⟨rfl, (Below.refl _ _).alloc (Nat.le_refl _) _⟩

end Go.Proofs.Ytndjpaiakodciaa
