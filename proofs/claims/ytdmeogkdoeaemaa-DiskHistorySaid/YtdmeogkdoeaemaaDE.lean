/-
  perform: the sectors after some writes. No condition.
-/
import Derived.Test.YtdmeogkdoeaemaaDD
namespace Go.Proofs.Ytdmeogkdoeaemaa
open Go.RowKit

theorem perf_take {s : List Bs} {l : List Wr} {k : Nat} (hk : k < l.length) : perf s (l.take (k + 1)) = (perf s (l.take k)).set (l[k]).at'.toNat (l[k]).data := by
  rw [List.take_succ_eq_append_getElem hk, perf_snoc]
theorem perf_len {s : List Bs} {l : List Wr} (hs : ∀ x ∈ s, x.length = 128) (hl : ∀ x ∈ l, x.data.length = 128) : ∀ x ∈ perf s l, x.length = 128 := by
  induction l generalizing s with
  | nil => exact hs
  | cons y l ih =>
    rw [perf_cons]
    refine ih (fun x hx => ?_) (fun x hx => hl x (List.mem_cons_of_mem _ hx))
    rcases List.mem_or_eq_of_mem_set hx with h | h
    · exact hs x h
    · rw [h]; exact hl y List.mem_cons_self
set_option maxRecDepth 100000 in
set_option maxHeartbeats 4000000 in
theorem dPerform_any (s : List Bs) (l : List Wr) (Vs Vl : Value) (S : Nat → Prop) (w : World) (hs : RwAt w S Vs s) (hl : WsAt w S Vl l) (hn : s.length ≤ 1048576) (hin : Hid (∀ x ∈ l, 0 ≤ x.at' ∧ x.at' < (s.length : Int))) :
    Calls Try.prog 40 #[Vs, Vl] w (RetOwn (perf s l) S w) := by
  obtain ⟨A, c, rfl, hm⟩ := hl.form
  unfold maxLen at hm
  obtain ⟨m, hmm⟩ : ∃ m, l.length = m := ⟨_, rfl⟩
  obtain ⟨n, hnn⟩ : ∃ n, s.length = n := ⟨_, rfl⟩
  rw [hmm] at hm hl ⊢
  have HM := Lib.hid hmm
  have HN := Lib.hid hnn
  have HL := Lib.hid hl
  have C := Lib.hid (dCloneS_any s Vs S w hs hn)
  clear hs hl hmm hnn hn
  go_enter Try.func40, Try.ntmps40
  go_wp2_with fail
  refine C.out.mono ?_
  rintro e w1 ⟨V, rfl, ho, hb⟩
  clear C
  go_wp2_with fail
  go_loopw [12] (fun i wr => ∃ k : Nat, k ≤ m ∧ i = .int .i64 k ∧ OwnRw wr w.heap.size (Old S w) V (perf s (l.take k)) ∧ Below w.heap.size w wr) (fun i _ => m - (intOf i).toNat)
  case atStart => exact ⟨0, by omega, rfl, ho, hb⟩
  case round =>
    clear ho hb
    obtain ⟨k, hk, rfl, ho, hb⟩ := hrel
    by_cases hlt : k < m
    · have hkl : k < l.length := by rw [HM.out]; exact hlt
      obtain ⟨b, off, U, rfl, hS, hbw, q0, q1, hU⟩ := HL.out.wr hkl
      obtain ⟨hi1, hi2⟩ := hin.out _ (List.getElem_mem hkl)
      rw [HN.out] at hi2
      have q0 := (hb.cell hbw).trans q0
      have q1 := (hb.cell hbw).trans q1
      have hU := hU.old.keep (Keeps.of hb)
      have hpt := perf_take (s := s) hkl
      obtain ⟨⟨xa, xd⟩, hx⟩ : ∃ x, l[k] = x := ⟨_, rfl⟩
      rw [hx] at q0 hU hi1 hi2 hpt
      dsimp only at q0 hU hi1 hi2 hpt
      obtain ⟨Au, cu, rfl, _⟩ := hU.form
      obtain ⟨ul, hul⟩ : ∃ ul, xd.length = ul := ⟨_, rfl⟩
      rw [hul] at q1 hU
      clear hul
      obtain ⟨j, rfl⟩ : ∃ j : Nat, xa = j := ⟨xa.toNat, by omega⟩
      have HPT := Lib.hid hpt
      have HU := Lib.hid hU
      have hj : j < n := by omega
      clear hx hpt hU hi1
      have hpl : Hid ((perf s (l.take k)).length = n) := by rw [Hid, perf_length, HN.out]
      have ho2 := ho.keep ((Below.refl wr.heap.size wr).alloc (Nat.le_refl _) (.cells #[.int .i64 j, .slice Au ul cu] 54))
      obtain ⟨g, cc, rfl, hnc, hbg, hgw, hgc, hgf⟩ := ho2.row hpl.out (by omega)
      obtain ⟨u, hu, _⟩ := hgc j hj
      have hf := hgf j
      have HO := Lib.hid ho2
      have hjc : (j : Int) < (cc : Int) := by omega
      have hbA := hb.alloc hb.size (.cells #[.int .i64 j, .slice Au ul cu] 54)
      have HU2 := Lib.hid (HU.out.keep (Keeps.of ((Below.refl wr.heap.size wr).alloc (Nat.le_refl _) (.cells #[.int .i64 j, .slice Au ul cu] 54))))
      clear ho ho2 hgc hgf HU
      go_wp2
      refine ⟨⟨k + 1, by omega, by go_num, ?_, hbA.setCell (p := ⟨g, j, none⟩) hbg _⟩, by simp [intOf]; omega⟩
      rw [HPT.out, Int.toNat_natCast]
      exact HO.out.set (fun h => by have := h.2; omega) hj hpl.out HU2.out
    · obtain rfl : k = m := by omega
      have hfin : Hid (l.take k = l) := by rw [Hid, List.take_of_length_le (by rw [HM.out]; omega)]
      rw [hfin.out] at ho
      have HO := Lib.hid ho
      clear ho
      go_wp2
      go_ret
      exact ⟨_, rfl, HO.out, hb⟩

end Go.Proofs.Ytdmeogkdoeaemaa
