/-
  Contracts of chapter 4 with their results named, for the walks of its laws. No condition.
-/
import Derived.Test.YtdmeogkdoeaemaaDX
import Derived.Test.YtdmeogkdoeaemaaDW
namespace Go.Proofs.Ytdmeogkdoeaemaa
open Go.RowKit

/-- Blocks other than those of the list. -/
def Out (L : List Nat) : Nat → Prop := fun b => b ∉ L
/-- All blocks of the list lie there. -/
def InW (L : List Nat) (w : World) : Prop := ∀ a ∈ L, a < w.heap.size
theorem InW.nil (w : World) : InW [] w := fun a h => by cases h
theorem InW.later {L : List Nat} {w w' : World} (h : InW L w) (hb : w.heap.size ≤ w'.heap.size) : InW L w' := fun a ha => Nat.lt_of_lt_of_le (h a ha) hb
theorem InW.cons {L : List Nat} {w : World} {a : Nat} (h : InW L w) (ha : a < w.heap.size) : InW (a :: L) w := fun b hb => by
  rcases List.mem_cons.1 hb with rfl | hb
  · exact ha
  · exact h b hb
theorem Out.grow {L : List Nat} {w : World} (h : InW L w) {b : Nat} (hb : Grow (Out L) w b) : Out L b := by
  rcases hb with hb | hb
  · exact hb
  · intro hL; have := h b hL; omega
section
variable {w w' : World} {L : List Nat} {Vs Vp : Value} {d : Dk}
theorem dk_later (h : Hid (DkAt w (Out L) Vs Vp d)) (hb : Below w.heap.size w w') : Hid (DkAt w' (Out L) Vs Vp d) := Lib.hid (h.out.keep (Keeps.of hb))
theorem dk_set {a : Nat} (ha : a ∈ L) (h : Hid (DkAt w (Out L) Vs Vp d)) (o : Nat) (u : Value) : Hid (DkAt (w.setCell ⟨a, o, none⟩ u) (Out L) Vs Vp d) := Lib.hid (h.out.keep (Keeps.set w (a := ⟨a, o, none⟩) (fun hc => hc ha) u))
/-- A block that is new is none of the datum's. -/
theorem dk_more {a : Nat} (ha : w.heap.size ≤ a) (h : Hid (DkAt w (Out L) Vs Vp d)) : Hid (DkAt w (Out (a :: L)) Vs Vp d) := Lib.hid (h.out.weak fun b hb hl hc => by
  rcases List.mem_cons.1 hc with rfl | hc
  · omega
  · exact hb hc)
theorem bs_later {V : Value} {b : Bs} (h : Hid (BsAt w (Out L) V b)) (hb : Below w.heap.size w w') : Hid (BsAt w' (Out L) V b) := Lib.hid (h.out.keep (Keeps.of hb))
theorem bs_set {V : Value} {b : Bs} {a : Nat} (ha : a ∈ L) (h : Hid (BsAt w (Out L) V b)) (o : Nat) (u : Value) : Hid (BsAt (w.setCell ⟨a, o, none⟩ u) (Out L) V b) := Lib.hid (h.out.keep (Keeps.set w (a := ⟨a, o, none⟩) (fun hc => hc ha) u))
theorem bs_more {V : Value} {b : Bs} {a : Nat} (ha : w.heap.size ≤ a) (h : Hid (BsAt w (Out L) V b)) : Hid (BsAt w (Out (a :: L)) V b) := Lib.hid (h.out.weak fun c hb hl hc => by
  rcases List.mem_cons.1 hc with rfl | hc
  · omega
  · exact hb hc)
end
/-- A result that is a disk, its slices written out. -/
theorem RetDk.is {t : Dk × Int} {L : List Nat} {w w' : World} {e : Ending} {m : Dk} {er : Int} {ns np : Nat} {dl : Int} {ds : Bool} (hh : RetDk t (Out L) w e w') (hL : InW L w) (ht : Hid (t = (m, er))) (h1 : Hid (m.sectors.length = ns)) (h2 : Hid (m.pending.length = np)) (h3 : Hid (m.left = dl)) (h4 : Hid (m.stopped = ds)) :
    ∃ (As : Option Addr) (cs : Nat) (Ap : Option Addr) (cp : Nat), e = .returned (.tuple #[.agg #[.slice As ns cs, .slice Ap np cp, .int .i64 dl, .bool ds], .int .i64 er]) ∧ Hid (DkAt w' (Out L) (.slice As ns cs) (.slice Ap np cp) m) ∧ Below w.heap.size w w' := by
  obtain ⟨Vs, Vp, m', er', he, ht', hD, hb⟩ := hh
  have h5 := ht'.symm.trans ht.out
  injection h5 with h5 h6
  subst h5 h6
  obtain ⟨As, cs, rfl, _⟩ := hD.out.sectors.form
  obtain ⟨Ap, cp, rfl, _⟩ := hD.out.pending.form
  rw [h1.out, h2.out] at hD
  rw [Dk.v, h1.out, h2.out, h3.out, h4.out] at he
  exact ⟨As, cs, Ap, cp, he, Lib.hid (hD.out.weak fun b hb _ => Out.grow hL hb), hb⟩
theorem RetD1.is {t : Dk} {L : List Nat} {w w' : World} {e : Ending} {ns np : Nat} {dl : Int} {ds : Bool} (hh : RetD1 t (Out L) w e w') (hL : InW L w) (h1 : Hid (t.sectors.length = ns)) (h2 : Hid (t.pending.length = np)) (h3 : Hid (t.left = dl)) (h4 : Hid (t.stopped = ds)) :
    ∃ (As : Option Addr) (cs : Nat) (Ap : Option Addr) (cp : Nat), e = .returned (.agg #[.slice As ns cs, .slice Ap np cp, .int .i64 dl, .bool ds]) ∧ Hid (DkAt w' (Out L) (.slice As ns cs) (.slice Ap np cp) t) ∧ Below w.heap.size w w' := by
  obtain ⟨Vs, Vp, m', he, ht', hD, hb⟩ := hh
  have h5 := ht'.out
  subst h5
  obtain ⟨As, cs, rfl, _⟩ := hD.out.sectors.form
  obtain ⟨Ap, cp, rfl, _⟩ := hD.out.pending.form
  rw [h1.out, h2.out] at hD
  rw [Dk.v, h1.out, h2.out, h3.out, h4.out] at he
  exact ⟨As, cs, Ap, cp, he, Lib.hid (hD.out.weak fun b hb _ => Out.grow hL hb), hb⟩
theorem RetBs.is {t : Bs × Int} {L : List Nat} {w w' : World} {e : Ending} {b : Bs} {er : Int} {n : Nat} (hh : RetBs t (Out L) w e w') (hL : InW L w) (ht : Hid (t = (b, er))) (h1 : Hid (b.length = n)) :
    ∃ (A : Option Addr) (c : Nat), e = .returned (.tuple #[.slice A n c, .int .i64 er]) ∧ Hid (BsAt w' (Out L) (.slice A n c) b) ∧ Below w.heap.size w w' := by
  obtain ⟨V, m', er', he, ht', hD, hb⟩ := hh
  have h5 := ht'.symm.trans ht.out
  injection h5 with h5 h6
  subst h5 h6
  obtain ⟨A, c, rfl, _⟩ := hD.out.form
  rw [h1.out] at hD he
  exact ⟨A, c, he, Lib.hid (hD.out.weak fun b hb _ => Out.grow hL hb), hb⟩
/-- The contracts at a disk whose parts have names. -/
structure DkIs (d : Dk) (l : Int) (s : Bool) : Prop where
  left : d.left = l
  stopped : d.stopped = s
section
variable {d : Dk} {Vs Vp : Value} {L : List Nat} {w : World} {l : Int} {s : Bool}
theorem dWrite_at (i : Int) {Vb : Value} {b : Bs} (hD : Hid (DkAt w (Out L) Vs Vp d)) (hd : DkIs d l s) (hb : Hid (BsAt w (Out L) Vb b)) : Calls Try.prog 19 #[.agg #[Vs, Vp, .int .i64 l, .bool s], .int .i64 i, Vb] w (RetDk (writeT d i b) (Out L) w) := by
  have := dWrite_any d Vs Vp i Vb b (Out L) w hD.out hb.out
  rwa [Dk.v, hd.left, hd.stopped] at this
theorem dRWrite_at (i : Int) {Vb : Value} {b : Bs} (hD : Hid (DkAt w (Out L) Vs Vp d)) (hd : DkIs d l s) (hb : Hid (BsAt w (Out L) Vb b)) : Calls Try.prog 20 #[.agg #[Vs, Vp, .int .i64 l, .bool s], .int .i64 i, Vb] w (RetDk (writeT d i b) (Out L) w) := by
  have := dRWrite_any d Vs Vp i Vb b (Out L) w hD.out hb.out
  rwa [Dk.v, hd.left, hd.stopped] at this
theorem dRead_at (i : Int) (hD : Hid (DkAt w (Out L) Vs Vp d)) (hd : DkIs d l s) : Calls Try.prog 21 #[.agg #[Vs, Vp, .int .i64 l, .bool s], .int .i64 i] w (RetBs (readT d i) (Out L) w) := by
  have := dRead_any d Vs Vp i (Out L) w hD.out
  rwa [Dk.v, hd.left, hd.stopped] at this
theorem dRRead_at (i : Int) (hD : Hid (DkAt w (Out L) Vs Vp d)) (hd : DkIs d l s) : Calls Try.prog 22 #[.agg #[Vs, Vp, .int .i64 l, .bool s], .int .i64 i] w (RetBs (readT d i) (Out L) w) := by
  have := dRRead_any d Vs Vp i (Out L) w hD.out
  rwa [Dk.v, hd.left, hd.stopped] at this
theorem dSync_at (hD : Hid (DkAt w (Out L) Vs Vp d)) (hd : DkIs d l s) : Calls Try.prog 23 #[.agg #[Vs, Vp, .int .i64 l, .bool s]] w (RetDk (syncT d) (Out L) w) := by
  have := dSync_any d Vs Vp (Out L) w hD.out
  rwa [Dk.v, hd.left, hd.stopped] at this
theorem dStop_at (k : Int) (hD : Hid (DkAt w (Out L) Vs Vp d)) (hd : DkIs d l s) : Calls Try.prog 25 #[.agg #[Vs, Vp, .int .i64 l, .bool s], .int .i64 k] w (RetDk (stopT d k) (Out L) w) := by
  have := dStop_any d Vs Vp k (Out L) w hD.out
  rwa [Dk.v, hd.left, hd.stopped] at this
theorem dRStop_at (k : Int) (hD : Hid (DkAt w (Out L) Vs Vp d)) (hd : DkIs d l s) : Calls Try.prog 26 #[.agg #[Vs, Vp, .int .i64 l, .bool s], .int .i64 k] w (RetDk (stopT d k) (Out L) w) := by
  have := dRStop_any d Vs Vp k (Out L) w hD.out
  rwa [Dk.v, hd.left, hd.stopped] at this
theorem dRestart_at (hD : Hid (DkAt w (Out L) Vs Vp d)) (hd : DkIs d l s) : Calls Try.prog 17 #[.agg #[Vs, Vp, .int .i64 l, .bool s]] w (RetD1 (restartT d) (Out L) w) := by
  have := dRestart_any d Vs Vp (Out L) w hD.out
  rwa [Dk.v, hd.left, hd.stopped] at this
theorem dRRestart_at (hD : Hid (DkAt w (Out L) Vs Vp d)) (hd : DkIs d l s) : Calls Try.prog 18 #[.agg #[Vs, Vp, .int .i64 l, .bool s]] w (RetD1 (restartT d) (Out L) w) := by
  have := dRRestart_any d Vs Vp (Out L) w hD.out
  rwa [Dk.v, hd.left, hd.stopped] at this
theorem dCheck_is {c : Int} (hD : Hid (DkAt w (Out L) Vs Vp d)) (hd : DkIs d l s) (hc : Hid (d.checkT = c)) : Calls Try.prog 15 #[.agg #[Vs, Vp, .int .i64 l, .bool s]] w fun e w' => e = .returned (.int .i64 c) ∧ Below w.heap.size w w' := by
  have := dCheck_any d Vs Vp (Out L) w hD.out
  rwa [Dk.v, hd.left, hd.stopped, hc.out] at this
theorem dRCheck_is {c : Int} (hD : Hid (DkAt w (Out L) Vs Vp d)) (hd : DkIs d l s) (hc : Hid (d.checkT = c)) : Calls Try.prog 16 #[.agg #[Vs, Vp, .int .i64 l, .bool s]] w fun e w' => e = .returned (.int .i64 c) ∧ Below w.heap.size w w' := by
  have := dRCheck_any d Vs Vp (Out L) w hD.out
  rwa [Dk.v, hd.left, hd.stopped, hc.out] at this
theorem dSame_is {a : Dk} {Ua Ub : Value} {l' : Int} {s' : Bool} {t : Bool} (hD : Hid (DkAt w (Out L) Vs Vp d)) (hE : Hid (DkAt w (Out L) Ua Ub a)) (hd : DkIs d l s) (ha : DkIs a l' s') (ht : Hid (sameD d a = t)) : Calls Try.prog 14 #[.agg #[Vs, Vp, .int .i64 l, .bool s], .agg #[Ua, Ub, .int .i64 l', .bool s']] w fun e w' => e = .returned (.bool t) ∧ Below w.heap.size w w' := by
  have := dSame_any d a Vs Vp Ua Ub (Out L) (Out L) w hD.out hE.out
  rwa [Dk.v, Dk.v, hd.left, hd.stopped, ha.left, ha.stopped, ht.out] at this
theorem dFew_is {t : Bool} (hD : Hid (DkAt w (Out L) Vs Vp d)) (hd : DkIs d l s) (hs : Hid d.small) (ht : Hid (fewB d = t)) : Calls Try.prog 11 #[.agg #[Vs, Vp, .int .i64 l, .bool s]] w fun e w' => e = .returned (.bool t) ∧ Below w.heap.size w w' := by
  have := dFew_any d Vs Vp (Out L) w hD.out hs
  rwa [Dk.v, hd.left, hd.stopped, ht.out] at this
end

end Go.Proofs.Ytdmeogkdoeaemaa
