/-
  Helpers for DiskTogether: a fresh box that is made ahead of a call and stored into behind it. No condition.
-/
import Derived.Test.YtdmeogkdoeaemaaEQ
namespace Go.Proofs.Ytdmeogkdoeaemaa
open Go.RowKit

theorem bs_litAt {S : Nat → Prop} (w : World) (c : UInt8) (t : TypeId) {g : Nat} (hg : g = w.heap.size) (hS : S g) : BsAt (w.alloc (.cells #[.int .u8 (c.toNat : Int)] t)) S (.slice (some ⟨g, 0, none⟩) 1 1) [c] := by subst hg; exact bs_lit w c t hS
theorem box_facts {w : World} {b : Nat} {c0 c1 c2 c3 : Value} (h : Box w b [c0, c1, c2, c3]) : w.cell? ⟨b, 0, none⟩ = some c0 ∧ w.cell? ⟨b, 1, none⟩ = some c1 ∧ w.cell? ⟨b, 2, none⟩ = some c2 ∧ w.cell? ⟨b, 3, none⟩ = some c3 ∧ w.frozen? ⟨b, 0, none⟩ = false ∧ w.frozen? ⟨b, 1, none⟩ = false ∧ w.frozen? ⟨b, 2, none⟩ = false ∧ w.frozen? ⟨b, 3, none⟩ = false ∧ b < w.heap.size :=
  ⟨h.cell 0, h.cell 1, h.cell 2, h.cell 3, h.free 0, h.free 1, h.free 2, h.free 3, h.lt⟩
/-- Four cells are stored. -/
abbrev put4 (w : World) (b : Nat) (v0 v1 v2 v3 : Value) : World := (((w.setCell ⟨b, 0, none⟩ v0).setCell ⟨b, 1, none⟩ v1).setCell ⟨b, 2, none⟩ v2).setCell ⟨b, 3, none⟩ v3
theorem Box.put4 {w : World} {b : Nat} {c0 c1 c2 c3 : Value} (h : Box w b [c0, c1, c2, c3]) (v0 v1 v2 v3 : Value) : Box (put4 w b v0 v1 v2 v3) b [v0, v1, v2, v3] := (((h.set 0 v0).set 1 v1).set 2 v2).set 3 v3
theorem box_past {w : World} {b a : Nat} {xs : List Value} (h : Box w b xs) (hne : b ≠ a) (v0 v1 v2 v3 : Value) : Box (put4 w a v0 v1 v2 v3) b xs := (((h.other (a := ⟨a, 0, none⟩) hne v0).other (a := ⟨a, 1, none⟩) hne v1).other (a := ⟨a, 2, none⟩) hne v2).other (a := ⟨a, 3, none⟩) hne v3
theorem below_put4 {B : Nat} {W w : World} {b : Nat} (h : Below B W w) (hb : B ≤ b) (v0 v1 v2 v3 : Value) : Below B W (put4 w b v0 v1 v2 v3) :=
  (((h.setCell (p := ⟨b, 0, none⟩) hb v0).setCell (p := ⟨b, 1, none⟩) hb v1).setCell (p := ⟨b, 2, none⟩) hb v2).setCell (p := ⟨b, 3, none⟩) hb v3
theorem dk_put4 {w : World} {L : List Nat} {Vs Vp : Value} {d : Dk} {b : Nat} (hb : b ∈ L) (h : Hid (DkAt w (Out L) Vs Vp d)) (v0 v1 v2 v3 : Value) : Hid (DkAt (put4 w b v0 v1 v2 v3) (Out L) Vs Vp d) :=
  dk_set hb (dk_set hb (dk_set hb (dk_set hb h 0 v0) 1 v1) 2 v2) 3 v3
theorem acs_put4 {w : World} {L : List Nat} {v : Value} {l : List Ac} {b : Nat} (hb : b ∈ L) (h : Hid (AcsAt w (Out L) v l)) (v0 v1 v2 v3 : Value) : Hid (AcsAt (put4 w b v0 v1 v2 v3) (Out L) v l) :=
  acs_set hb (acs_set hb (acs_set hb (acs_set hb h 0 v0) 1 v1) 2 v2) 3 v3
theorem dk_less {w : World} {L : List Nat} {Vs Vp : Value} {d : Dk} {a : Nat} (h : Hid (DkAt w (Out (a :: L)) Vs Vp d)) : Hid (DkAt w (Out L) Vs Vp d) := Lib.hid (h.out.weak fun b hb _ hc => hb (List.mem_cons_of_mem _ hc))

/-- Write, of a literal byte: without and with a fresh box made ahead of it. -/
def WrCall (W : World) (L : List Nat) (args : Value) (ns np' : Nat) (i : Int) (c : UInt8) (l' : Int) (s' : Bool) (y : Dk) : Prop :=
  (∀ (z : World) (g : Nat), z.heap.size = W.heap.size + 1 → Below W.heap.size W z → BsAt z (Out L) (.slice (some ⟨g, 0, none⟩) 1 1) [c] → Calls Try.prog 19 #[args, .int .i64 i, .slice (some ⟨g, 0, none⟩) 1 1] z fun e w' => ∃ (Az : Option Addr) (cz : Nat) (Pz : Option Addr) (qz : Nat), e = .returned (.tuple #[.agg #[.slice Az ns cz, .slice Pz np' qz, .int .i64 l', .bool s'], .int .i64 0]) ∧ Hid (DkAt w' (Out L) (.slice Az ns cz) (.slice Pz np' qz) y) ∧ Below W.heap.size W w' ∧ z.heap.size ≤ w'.heap.size ∧ Below z.heap.size z w') ∧
  (∀ (z : World) (g : Nat), z.heap.size = W.heap.size + 2 → g = W.heap.size + 1 → Below W.heap.size W z → BsAt z (Out (W.heap.size :: L)) (.slice (some ⟨g, 0, none⟩) 1 1) [c] → Calls Try.prog 19 #[args, .int .i64 i, .slice (some ⟨g, 0, none⟩) 1 1] z fun e w' => ∃ (Az : Option Addr) (cz : Nat) (Pz : Option Addr) (qz : Nat), e = .returned (.tuple #[.agg #[.slice Az ns cz, .slice Pz np' qz, .int .i64 l', .bool s'], .int .i64 0]) ∧ Hid (DkAt w' (Out (W.heap.size :: L)) (.slice Az ns cz) (.slice Pz np' qz) y) ∧ Below W.heap.size W w' ∧ z.heap.size ≤ w'.heap.size ∧ Below z.heap.size z w') ∧
  (∀ (z : World) (g : Nat), z.heap.size = W.heap.size + 2 → g = W.heap.size → Below W.heap.size W z → BsAt z (Out ((W.heap.size + 1) :: L)) (.slice (some ⟨g, 0, none⟩) 1 1) [c] → Calls Try.prog 19 #[args, .int .i64 i, .slice (some ⟨g, 0, none⟩) 1 1] z fun e w' => ∃ (Az : Option Addr) (cz : Nat) (Pz : Option Addr) (qz : Nat), e = .returned (.tuple #[.agg #[.slice Az ns cz, .slice Pz np' qz, .int .i64 l', .bool s'], .int .i64 0]) ∧ Hid (DkAt w' (Out ((W.heap.size + 1) :: L)) (.slice Az ns cz) (.slice Pz np' qz) y) ∧ Below W.heap.size W w' ∧ z.heap.size ≤ w'.heap.size ∧ Below z.heap.size z w')
theorem wrCall {W : World} {L : List Nat} {Ax Px : Option Addr} {ns cx np qx np' : Nat} {l l' : Int} {s s' : Bool} {x y : Dk} {i : Int} {c : UInt8} (hD : Hid (DkAt W (Out L) (.slice Ax ns cx) (.slice Px np qx) x)) (hx : DkIs x l s) (hL : InW L W) (hw : writeT x i [c] = (y, 0)) (h1 : y.sectors.length = ns) (h2 : y.pending.length = np') (h3 : y.left = l') (h4 : y.stopped = s') :
    WrCall W L (.agg #[.slice Ax ns cx, .slice Px np qx, .int .i64 l, .bool s]) ns np' i c l' s' y := by
  refine ⟨?_, ?_, ?_⟩
  · intro z g _ hz hbs
    have := dWrite_at i (dk_later hD hz) hx (Lib.hid hbs)
    rw [hw] at this
    refine this.mono fun e w' hh => ?_
    obtain ⟨Az, cz, Pz, qz, he, Dz, hbz⟩ := RetDk.is hh (hL.later hz.size) (Lib.hid rfl) (Lib.hid h1) (Lib.hid h2) (Lib.hid h3) (Lib.hid h4)
    exact ⟨Az, cz, Pz, qz, he, Dz, hz.trans (hbz.mono hz.size), hbz.size, hbz⟩
  · intro z g hzs _ hz hbs
    have := dWrite_at i (dk_later (dk_more (Nat.le_refl _) hD) hz) hx (Lib.hid hbs)
    rw [hw] at this
    refine this.mono fun e w' hh => ?_
    obtain ⟨Az, cz, Pz, qz, he, Dz, hbz⟩ := RetDk.is hh ((hL.later hz.size).cons (by omega)) (Lib.hid rfl) (Lib.hid h1) (Lib.hid h2) (Lib.hid h3) (Lib.hid h4)
    exact ⟨Az, cz, Pz, qz, he, Dz, hz.trans (hbz.mono hz.size), hbz.size, hbz⟩
  · intro z g hzs _ hz hbs
    have := dWrite_at i (dk_later (dk_more (Nat.le_succ _) hD) hz) hx (Lib.hid hbs)
    rw [hw] at this
    refine this.mono fun e w' hh => ?_
    obtain ⟨Az, cz, Pz, qz, he, Dz, hbz⟩ := RetDk.is hh ((hL.later hz.size).cons (by omega)) (Lib.hid rfl) (Lib.hid h1) (Lib.hid h2) (Lib.hid h3) (Lib.hid h4)
    exact ⟨Az, cz, Pz, qz, he, Dz, hz.trans (hbz.mono hz.size), hbz.size, hbz⟩

end Go.Proofs.Ytdmeogkdoeaemaa
