/- Plain facts on the search for a flaw. No condition. -/
import Derived.Test.YtcjcjkomcolgeaaQT
import Derived.Test.YtcjcjkomcolgeaaQBL
import Derived.Deep.CutBlock
import Derived.Test.YtcjcjkomcolgeaaQBD
import Derived.Test.YtcjcjkomcolgeaaQD
set_option linter.unusedVariables false
set_option linter.unusedSimpArgs false
namespace Go.Proofs.Ytcjcjkomcolgeaa
open Go.RowKit

theorem findSome_pre {α β : Type} {l pre : List α} {x : α} {f : β} {g : α → Option β} (h : pre ++ [x] <+: l) (hn : ∀ y ∈ pre, g y = none) (hx : g x = some f) : l.findSome? g = some f := by
  obtain ⟨r, rfl⟩ := h
  rw [List.append_assoc, List.findSome?_append, List.findSome?_eq_none_iff.2 hn]
  simp [hx]
theorem find_pre {α : Type} {l pre : List α} {x : α} {g : α → Bool} (h : pre ++ [x] <+: l) (hn : ∀ y ∈ pre, g y = false) (hx : g x = true) : l.find? g = some x := by
  obtain ⟨r, rfl⟩ := h
  rw [List.append_assoc, List.find?_append, List.find?_eq_none.2 (fun y hy => by rw [hn y hy]; decide)]
  simp [hx]
theorem pre_mem {α : Type} {l pre : List α} {x : α} (h : pre ++ [x] <+: l) : x ∈ l := h.subset (by simp)
theorem has_nums {p : Pl} (hv : p.Valid) {s : St} (h : p.hasB s = true) : s.numsB = true := by
  obtain ⟨h1, h2, h3, h4, h5, h6⟩ := small6 hv (Pl.hasB_bd h)
  simp only [St.numsB]
  rw [inI_in (by omega), inI_in (by omega), inI_in (by omega), inI_in (by omega), inI_in (by omega), inI_in (by omega)]
  rfl
theorem states_nums {p : Pl} (hv : p.Valid) {s : St} (h : s ∈ p.states) : Hid (s.numsB = true) := has_nums hv (states_has hv h)
theorem nexts_mem {p : Pl} {c : List Ln} {s : St} {x : Sh × St} (h : x ∈ p.nexts c s (p.nf * p.nm)) : x.1 ∈ p.shocks ∧ x.2 = (nextT p c s x.1).1 := by
  obtain ⟨j, hj, rfl⟩ := List.mem_map.1 h
  exact ⟨List.mem_map.2 ⟨j, hj, rfl⟩, rfl⟩
theorem nextS_has {p : Pl} {c : List Ln} {s : St} {x : Sh} (ha : askT p c = 0) (hs : s ∈ p.states) (hx : x ∈ p.shocks) : p.hasB (nextT p c s x).1 = true := by
  obtain ⟨h1, h2⟩ := ask_zero ha
  obtain ⟨hv, _⟩ := Pl.check_zero h1
  have hh := states_has hv hs
  have hc := (shocks_mem hv).1 hx
  rcases gateT_two c with ⟨_, hg⟩ | hg
  · rw [nextT, if_pos h1, if_pos h2, if_pos hh, if_pos hc]
    exact step_has hv hh hc hg
  · omega
theorem nexts_nums {p : Pl} {c : List Ln} {s : St} (ha : askT p c = 0) (hs : s ∈ p.states) {x : Sh × St} (h : x ∈ p.nexts c s (p.nf * p.nm)) : Hid (x.2.numsB = true) := by
  obtain ⟨h1, h2⟩ := nexts_mem h
  rw [h2]
  exact has_nums (Pl.check_zero (ask_zero ha).1).1 (nextS_has ha hs h1)
theorem flaw_out {p : Pl} {c : List Ln} {b : List Iq} {s : St} (h : inB b s = false) : flawAt p c b s = none := by rw [flawAt, if_neg (by rw [h]; decide)]
theorem flaw_unsafe {p : Pl} {c : List Ln} {b : List Iq} {s : St} (h : inB b s = true) (hs : p.safeB s = false) : flawAt p c b s = some ⟨2, s, Sh.zero⟩ := by rw [flawAt, if_pos h, if_neg (by rw [hs]; decide)]
theorem flaw_stays {p : Pl} {c : List Ln} {b : List Iq} {s : St} (h : ∀ x ∈ p.nexts c s (p.nf * p.nm), inB b x.2 = true) (_hi : inB b s = true) (hs : p.safeB s = true) : flawAt p c b s = none := by
  refine flaw_none.2 fun _ => ⟨hs, fun x hx => ?_⟩
  obtain ⟨j, hj, rfl⟩ := List.mem_map.1 hx
  exact h (p.shAt j, _) (List.mem_map.2 ⟨j, hj, rfl⟩)
theorem flaw_leaves {p : Pl} {c : List Ln} {b : List Iq} {s : St} {pre : List (Sh × St)} {x : Sh × St} (hi : inB b s = true) (hs : p.safeB s = true) (h : pre ++ [x] <+: p.nexts c s (p.nf * p.nm)) (hn : ∀ y ∈ pre, inB b y.2 = true) (hx : inB b x.2 = false) :
    flawAt p c b s = some ⟨3, s, x.1⟩ := by
  rw [flawAt, if_pos hi, if_pos hs]
  have key : pre.map Prod.fst ++ [x.1] <+: p.shocks := by
    have h1 := List.IsPrefix.map Prod.fst h
    rw [List.map_append] at h1
    have h2 : (p.nexts c s (p.nf * p.nm)).map Prod.fst = p.shocks := by
      rw [Pl.nexts, List.map_map]
      rfl
    rw [h2] at h1
    exact h1
  have e : ∀ y ∈ pre, y.2 = (nextT p c s y.1).1 := fun y hy => (nexts_mem (h.subset (by simp [hy]))).2
  rw [find_pre (x := x.1) key]
  · rfl
  · intro z hz
    obtain ⟨y, hy, rfl⟩ := List.mem_map.1 hz
    rw [← e y hy, hn y hy]
    rfl
  · rw [← (nexts_mem (pre_mem h)).2, hx]
    rfl
end Go.Proofs.Ytcjcjkomcolgeaa

/-
  The reference of chapter 33: within, check, in, Holds. (Printed by pp.py.) No condition.
-/
namespace Go.Proofs.Ytcjcjkomcolgeaa
open Go.RowKit

end Go.Proofs.Ytcjcjkomcolgeaa
