/-
  Contracts of Int, Text and List of the reference; strings as bytes; the values of the example. No condition.
-/
import Derived.Test.YtcokkloaljaanaaGA
import Derived.Lib.ConvBytes
namespace Go.Proofs.Ytcokkloaljaanaa
open Go.RowKit

set_option maxHeartbeats 1000000 in
theorem rInt_any (n : Int) (w : World) : Calls Try.prog 23 #[.int .i64 n] w fun e w' => e = .returned (.agg #[.int .i64 1, .int .i64 n, .string ⟨#[]⟩, .slice none 0 0]) ∧ Below w.heap.size w w' := by
  go_enter Try.func23, Try.ntmps23
  go_wp2
  refine bodyPost_ret (v := .agg #[.int .i64 1, .int .i64 n, .string ⟨#[]⟩, .slice none 0 0]) (by simp [results, Try.results23, go_sem]) rfl ⟨rfl, ?_⟩
  exact (Below.refl _ _).alloc (Nat.le_refl _) _
set_option maxHeartbeats 1000000 in
theorem rText_any (s : ByteArray) (w : World) : Calls Try.prog 24 #[.string s] w fun e w' => e = .returned (.agg #[.int .i64 2, .int .i64 0, .string s, .slice none 0 0]) ∧ Below w.heap.size w w' := by
  go_enter Try.func24, Try.ntmps24
  go_wp2
  refine bodyPost_ret (v := .agg #[.int .i64 2, .int .i64 0, .string s, .slice none 0 0]) (by simp [results, Try.results24, go_sem]) rfl ⟨rfl, ?_⟩
  exact (Below.refl _ _).alloc (Nat.le_refl _) _
set_option maxHeartbeats 1000000 in
theorem rList_any (A : Option Addr) (n c : Nat) (w : World) : Calls Try.prog 22 #[.slice A n c] w fun e w' => e = .returned (.agg #[.int .i64 3, .int .i64 0, .string ⟨#[]⟩, .slice A n c]) ∧ Below w.heap.size w w' := by
  go_enter Try.func22, Try.ntmps22
  go_wp2
  refine bodyPost_ret (v := .agg #[.int .i64 3, .int .i64 0, .string ⟨#[]⟩, .slice A n c]) (by simp [results, Try.results22, go_sem]) rfl ⟨rfl, ?_⟩
  exact (Below.refl _ _).alloc (Nat.le_refl _) _

/-- A string as bytes. -/
theorem conv_bytes (w : World) (s : Bs) (hs : s.length ≤ maxLen) : ∃ c w', (convert 9 27 (.string (strB s))).run Try.prog w = .ok (.slice (some ⟨w.heap.size, 0, none⟩) s.length c) w' ∧ BsAt w' (fun b => b < w'.heap.size) (.slice (some ⟨w.heap.size, 0, none⟩) s.length c) s ∧ Below w.heap.size w w' := by
  have hr := Lib.run_convert_string_bytes (P := Try.prog) w 9 27 5 (strB s) Try.underlying9 Try.underlying27 Try.underlying5
  have hsz : (strB s).size = s.length := rfl
  rw [hsz] at hr
  refine ⟨_, _, hr, ⟨.inr ⟨_, _, _, rfl, grownCap_ge _ _ _ _, grownCap_le_maxLen _ _ _ _ hs⟩, _, _, rfl, hs, fun i hi => ⟨w.heap.size, 0, rfl, ?_, ?_, fun j hj => ?_⟩⟩, ?_⟩
  · rw [Lib.bytesWorld_size]; omega
  · rw [Lib.bytesWorld_size]; omega
  · obtain rfl : j = 0 := by omega
    have := Lib.bytesWorld_cell w 5 (strB s) i hi
    simp only [Nat.zero_add, Nat.mul_one, Nat.add_zero]
    exact this
  · exact ⟨rfl, rfl, rfl, by rw [Lib.bytesWorld_size]; omega, fun k hk => Lib.bytesWorld_at_old w _ _ k hk⟩

/-- The values of the example. -/
def eX : Val := .mk 1 (-3) [] []
def eV : Val := .mk 3 0 [] [.mk 1 100 [] [], .mk 2 0 [97, 98] []]
theorem eX_enc : eX.enc = [1, 5] := by
  have hz : zig (-3) = 5 := by decide
  rw [eX, enc_1, hz, numT_small (by decide)]
  rfl
theorem eV_enc : eV.enc = [3, 2, 1, 200, 1, 2, 2, 97, 98] := by
  have hz : zig 100 = 200 := by decide
  have h200 : numT 200 = [200, 1] := by rw [numT_big (by decide), numT_small (by decide)]; rfl
  have h2 : numT 2 = [2] := by rw [numT_small (by decide)]; rfl
  rw [eV, enc_3, encL, encL, encL, enc_1, enc_2, hz, h200]
  simp only [List.length_cons, List.length_nil, Nat.zero_add, Nat.reduceAdd, h2]
  rfl
theorem eX_fits : eX.fits := ⟨by decide, ⟨Nat.zero_le _, Nat.zero_le _⟩, trivial⟩
theorem eV_fits : eV.fits := ⟨by decide, ⟨Nat.zero_le _, by simp [maxLen]⟩, ⟨by decide, ⟨Nat.zero_le _, Nat.zero_le _⟩, trivial⟩, ⟨by decide, ⟨by simp [maxLen], Nat.zero_le _⟩, trivial⟩, trivial⟩
theorem eX_chk : chkT eX = 0 := by rfl
theorem eV_ok : eV.okB = true := by rfl
theorem eV_depth : eV.depth = 1 := by rfl
theorem eV_chk : chkT eV = 0 := chk_ok eV_ok (by rw [eV_depth]; decide)
theorem eX_enc' : encT eX = ([1, 5], 0) := by rw [enc_ok eX_chk, eX_enc]
theorem eV_enc' : encT eV = ([3, 2, 1, 200, 1, 2, 2, 97, 98], 0) := by rw [enc_ok eV_chk, eV_enc]
theorem eV_dec : decT [3, 2, 1, 200, 1, 2, 2, 97, 98] = (eV, 0) := by rw [← eV_enc]; exact dec_enc eV_ok eV_fits (by rw [eV_depth]; decide)
theorem dec_bad1 : decT [] = (Val.zero, 10) := rfl
theorem dec_bad2 : decT [1, 128, 0] = (Val.zero, 10) := by rfl
theorem dec_bad3 : decT [1, 5, 0] = (Val.zero, 10) := by rfl
theorem dec_bad4 : decT [2, 3, 97] = (Val.zero, 10) := by rfl
theorem zero_chk : chkT Val.zero = 1 := by rfl
/-- The list of the example in memory. -/
theorem eV_at {w : World} {b : Nat} (h : Box w b [.int .i64 1, .int .i64 100, .string ⟨#[]⟩, .slice none 0 0, .int .i64 2, .int .i64 0, .string ⟨#[97, 98]⟩, .slice none 0 0]) : ValsAt w w.heap.size 1 (.slice (some ⟨b, 0, none⟩) 2 2) eV.elems := by
  refine ⟨.inr ⟨_, _, _, rfl, Nat.le_refl _, by simp [maxLen]⟩, fun _ => .slice none 0 0, ⟨_, _, rfl, by simp [eV, Val.elems, maxLen], fun i hi => ⟨b, 0, rfl, h.lt, fun j hj => ?_⟩⟩, fun i x hx => ?_⟩
  · have hi : i < 2 := hi
    rw [h.cell]
    rcases (show i = 0 ∨ i = 1 by omega) with rfl | rfl
    all_goals
      rcases (show j = 0 ∨ j = 1 ∨ j = 2 ∨ j = 3 by omega) with rfl | rfl | rfl | rfl
      all_goals rfl
  · have : x.elems = [] := by
      rcases i with _ | _ | i
      · cases hx; rfl
      · cases hx; rfl
      · simp [eV, Val.elems] at hx
    rw [this]
    exact valsAt_nil _ _ _

end Go.Proofs.Ytcokkloaljaanaa
