/-
  Contract of Size of codec. (Printed by gen_cp.py.)
-/
import Derived.Test.YtcokkloaljaanaaCP
namespace Go.Proofs.Ytcokkloaljaanaa
open Go.RowKit

set_option maxHeartbeats 1000000 in
theorem cSize_any (d : Nat) (hd : d ≤ 1000) (x : Val) (L : Value) (w : World) (hV : ValsAt w w.heap.size d L x.elems) (hf : x.fits) (hlen : x.enc.length ≤ 79000000) :
    Calls Try.prog 14 #[x.v L] w fun e w' => e = .returned (.tuple #[.int .i64 ((encT x).1.length : Nat), .int .i64 (encT x).2]) ∧ Below w.heap.size w w' := by
  obtain ⟨A, c, rfl, hm⟩ := hV.form
  have hst := (Below.refl w.heap.size w).alloc (Nat.le_refl _) (.cells #[.int .i64 x.kind, .int .i64 x.num, .string (strB x.str), .slice A x.elems.length c] 24)
  have HC := Lib.hid (cEncode_any d hd x _ _ (hV.later hst) hf hlen)
  have HL := encT_le hlen
  have ST := Lib.hid hst
  clear hV hst hf hlen
  dsimp only [Val.v] at HC ST ⊢
  generalize encT x = t at HC HL ⊢
  obtain ⟨T, er⟩ := t
  dsimp only at HL ⊢
  obtain ⟨tl, htl⟩ : ∃ tl, T.length = tl := ⟨_, rfl⟩
  rw [htl] at HL ⊢
  replace htl := Lib.hid htl
  generalize x.kind = ak, x.num = an, strB x.str = as', x.elems.length = al at HC ST ⊢
  go_enter Try.func14, Try.ntmps14
  go_wp2_with fail
  refine HC.out.mono ?_
  rintro e w1 ⟨V, rfl, hb, hB1⟩
  obtain ⟨A2, c2, rfl, _⟩ := hb.form
  rw [htl.out]
  have hB := Lib.hid (ST.out.trans (hB1.mono (by simp)))
  clear hB1 ST HC hb
  go_wp2
  go_ret2
  exact ⟨rfl, hB.out⟩

end Go.Proofs.Ytcokkloaljaanaa
