/- Contract of Sync of journal. The records' lengths together are bounded. -/
import Derived.Test.YthlidhfahaalgaaQLD
set_option linter.unusedVariables false
set_option linter.unusedSimpArgs false
namespace Go.Proofs.Ythlidhfahaalgaa
open Go.RowKit
theorem syncJ_1 {l : Jn} {d : Dk} (h : l.okB = false) : syncJ l d = (Jn.zero, Dk.zero, 1) := by rw [syncJ, h]; rfl
theorem jSync_any (l : Jn) (A : Option Addr) (n c : Nat) (many sync : Int) (d : Dk) (As : Option Addr) (ns cs : Nat) (Ap : Option Addr) (np cp : Nat) (dl : Int) (ds : Bool) (S : Nat → Prop) (w : World) (h : Hid (RwAt w S (.slice A n c) l.records)) (hn : Hid (l.records.length = n)) (hm : Hid (l.many = many)) (hy : Hid (l.synced = sync)) (hs : Hid (sumB l.records ≤ 4194304)) (hD : Hid (DkAt w S (.slice As ns cs) (.slice Ap np cp) d)) (hdl : Hid (d.left = dl)) (hds : Hid (d.stopped = ds)) (hns : Hid (d.sectors.length = ns)) (hnp : Hid (d.pending.length = np)) :
    Calls Try.prog 21 #[.agg #[.slice A n c, .int .i64 many, .int .i64 sync], .agg #[.slice As ns cs, .slice Ap np cp, .int .i64 dl, .bool ds]] w (RetJD (syncJ l d) S w) := by
  rcases hok : l.okB with _ | _
  · exact jSync_1 l A n c many sync d As ns cs Ap np cp dl ds S w h hn hm hy hs hD hdl hds hns hnp (Lib.hid (syncJ_1 hok)) (Lib.hid (Jn.bad hok))
  have hc := Lib.hid (Jn.good hok)
  by_cases hcd : d.checkT = 0
  rotate_left
  · exact jSync_2 l A n c many sync d As ns cs Ap np cp dl ds S w h hn hm hy hs hD hdl hds hns hnp hc d.checkT (Lib.hid (by rw [syncJ, if_pos hok, if_pos hcd])) rfl hcd
  have HCD := Lib.hid hcd
  rcases hst : ds with _ | _
  rotate_left
  · subst hst
    exact jSync_4 l A n c many sync d As ns cs Ap np cp dl true S w h hn hm hy hs hD hdl hds hns hnp hc HCD 40 (Lib.hid (by rw [syncJ, if_pos hok, if_neg (by rw [hcd]; simp), if_pos hds.out])) (Lib.hid (by rw [openT, if_neg (by rw [hcd]; simp), if_pos hds.out])) (.inl ⟨rfl, rfl⟩)
  subst hst
  by_cases hmn : many = (ns : Int)
  rotate_left
  · exact jSync_3 l A n c many sync d As ns cs Ap np cp dl false S w h hn hm hy hs hD hdl hds hns hnp hc HCD (Lib.hid (by rw [syncJ, if_pos hok, if_neg (by rw [hcd]; simp), if_neg (by rw [hds.out]; simp), if_pos (.inl (by rw [hm.out, hns.out]; exact hmn))])) rfl hmn
  rcases Nat.eq_zero_or_pos np with h0 | h0
  rotate_left
  · have hp : d.pending ≠ [] := fun e => by have := hnp.out; rw [e] at this; simp at this; omega
    exact jSync_4 l A n c many sync d As ns cs Ap np cp dl false S w h hn hm hy hs hD hdl hds hns hnp hc HCD 1 (Lib.hid (by rw [syncJ, if_pos hok, if_neg (by rw [hcd]; simp), if_neg (by rw [hds.out]; simp), if_pos (.inr hp)])) (Lib.hid (by rw [openT, if_neg (by rw [hcd]; simp), if_neg (by rw [hds.out]; simp), if_pos hp])) (.inr ⟨rfl, hmn, h0, rfl⟩)
  subst h0 hmn
  obtain ⟨_, _, g3, g4, _⟩ := l.okB_iff.1 hok
  obtain ⟨k, hk⟩ : ∃ k : Nat, sync = (k : Int) := ⟨sync.toNat, by rw [hy.out] at g3; omega⟩
  subst hk
  have hkn : k ≤ n := by rw [hy.out, hn.out] at g4; omega
  by_cases hfit : decide (recordsT d.sectors = l.records.take k) = true → genM d.sectors + 1 ≤ 4294967295 → k = n
  · exact jSync_5 l A n c k d As ns cs Ap cp dl S w h hn hm hy hs hD hdl hds hns hnp hc HCD (Lib.hid hfit)
  · obtain ⟨h1, h2⟩ := Classical.not_imp.1 hfit
    obtain ⟨h2, h3⟩ := Classical.not_imp.1 h2
    have hlt : k < n := by omega
    obtain ⟨b, o, V, e, _⟩ := h.out.row (k := 0) (by rw [hn.out]; omega)
    subst e
    exact jSync_7 l b o n c k d As ns cs Ap cp dl S w h hn hm hy hs hD hdl hds hns hnp hc HCD (Lib.hid (of_decide_eq_true h1)) (Lib.hid h2) hlt
end Go.Proofs.Ythlidhfahaalgaa
namespace Go.Proofs.Ythlidhfahaalgaa
open Go.RowKit
attribute [local go_sem ↓ high] app_named cop_named
end Go.Proofs.Ythlidhfahaalgaa
