/-
  A list of acts that the call has made itself. No condition.
-/
import Derived.Test.YtdmeogkdoeaemaaEU
import Derived.Maps.AppendAt
namespace Go.Proofs.Ytdmeogkdoeaemaa
open Go.RowKit

theorem info_ac : (Try.prog.info? 46).map (fun i => (i.zero, i.size, i.bytes)) = some (some (.agg #[.bool false, .int .u8 0, .int .u8 0]), 3, 3) := by kernel_rfl
theorem elem_ac : ∃ i, Elem 43 46 i (.agg #[.bool false, .int .u8 0, .int .u8 0]) 3 3 := by
  obtain ⟨i, hi, h0, h1, h2⟩ := info_parts info_ac
  exact ⟨i, Try.underlying43, hi, h0, h1, h2, rfl, by decide⟩
def acAll : List Ac → List Value
  | [] => []
  | x :: l => .bool x.sync :: .int .u8 (x.at'.toNat : Int) :: .int .u8 (x.byte.toNat : Int) :: acAll l
theorem acAll_snoc (l : List Ac) (x : Ac) : acAll (l ++ [x]) = acAll l ++ [.bool x.sync, .int .u8 (x.at'.toNat : Int), .int .u8 (x.byte.toNat : Int)] := by
  induction l with
  | nil => rfl
  | cons y l ih => rw [List.cons_append, acAll, ih]; rfl
theorem acAll_get {l : List Ac} {k : Nat} (hk : k < l.length) : (acAll l)[k * 3]? = some (.bool l[k].sync) ∧ (acAll l)[k * 3 + 1]? = some (.int .u8 (l[k].at'.toNat : Int)) ∧ (acAll l)[k * 3 + 2]? = some (.int .u8 (l[k].byte.toNat : Int)) := by
  induction l generalizing k with
  | nil => simp at hk
  | cons x l ih =>
    rcases k with _ | k
    · exact ⟨rfl, rfl, rfl⟩
    · have := ih (k := k) (by simpa using hk)
      have e : ∀ j, (k + 1) * 3 + j = (k * 3 + j) + 1 + 1 + 1 := fun j => by omega
      refine ⟨?_, ?_, ?_⟩
      · rw [show (k + 1) * 3 = (k * 3) + 1 + 1 + 1 by omega]; exact this.1
      · rw [e 1]; exact this.2.1
      · rw [e 2]; exact this.2.2
/-- The row at block g, of what the call has made from B on, holds the acts l. -/
def OwnAc (w : World) (B g n c : Nat) (l : List Ac) : Prop := w.ownsRow B 46 3 (.slice (some ⟨g, 0, none⟩) n c) n (acAll l) ∧ l.length = n ∧ B ≤ g ∧ g < w.heap.size
theorem grown_none {a w : World} (h : Below a.heap.size a w) : a.grownBy w none := ⟨h.os, h.tape, h.output, h.size, fun i hi _ => h.block i hi⟩
theorem OwnAc.later {w w' : World} {B g n c : Nat} {l : List Ac} (h : OwnAc w B g n c l) (hb : Below w.heap.size w w') : OwnAc w' B g n c l :=
  ⟨World.ownsRow.kept h.1 (grown_none hb) (.inr (by rw [Value.ownBlock]; simp)), h.2.1, h.2.2.1, Nat.lt_of_lt_of_le h.2.2.2 hb.size⟩
theorem grown_set (w : World) (a : Addr) (u : Value) : w.grownBy (w.setCell a u) (some a.block) := ⟨rfl, rfl, rfl, by simp, fun k _ hk => Below.heap_setCell w a u k (fun e => hk (by rw [e]))⟩
theorem OwnAc.set {w : World} {B g n c : Nat} {l : List Ac} (h : OwnAc w B g n c l) {a : Addr} (ha : g ≠ a.block) (u : Value) : OwnAc (w.setCell a u) B g n c l :=
  ⟨World.ownsRow.kept h.1 (grown_set w a u) (.inr (by rw [Value.ownBlock]; simpa using ha)), h.2.1, h.2.2.1, by simpa using h.2.2.2⟩
theorem OwnAc.cell {w : World} {B g n c : Nat} {l : List Ac} (h : OwnAc w B g n c l) {k : Nat} (hk : k < l.length) :
    w.cell? ⟨g, k * 3, none⟩ = some (.bool l[k].sync) ∧ w.cell? ⟨g, k * 3 + 1, none⟩ = some (.int .u8 (l[k].at'.toNat : Int)) ∧ w.cell? ⟨g, k * 3 + 2, none⟩ = some (.int .u8 (l[k].byte.toNat : Int)) := by
  have hc := World.ownsRow.cells h.1 (g := g) (by rw [Value.ownBlock])
  obtain ⟨h1, h2, h3⟩ := acAll_get hk
  refine ⟨?_, ?_, ?_⟩
  · have := hc _ _ h1; rwa [add_at, Nat.zero_add] at this
  · have := hc _ _ h2; rwa [add_at, Nat.zero_add] at this
  · have := hc _ _ h3; rwa [add_at, Nat.zero_add] at this
theorem ownAc_new (w : World) (B : Nat) (hB : B ≤ w.heap.size) : OwnAc (w.alloc (.cells #[] 46)) B w.heap.size 0 0 [] := by
  refine ⟨⟨rfl, .inr ⟨w.heap.size, 0, #[], rfl, hB, ?_, Nat.le_refl _, Nat.zero_le _, rfl, rfl⟩⟩, rfl, hB, by simp⟩
  show (w.heap.push _)[w.heap.size]? = _
  simp
theorem app_ac {w : World} {B g n c bb : Nat} {l : List Ac} {x : Ac} (ho : OwnAc w B g n c l) (hX : Box w bb [.bool x.sync, .int .u8 (x.at'.toNat : Int), .int .u8 (x.byte.toNat : Int)]) (hn : n ≤ 100000) (hB : B ≤ w.heap.size) :
    ∃ g' c' w', (appF #[43, 43] 43 #[.slice (some ⟨g, 0, none⟩) n c, .slice (some ⟨bb, 0, none⟩) 1 1]).run Try.prog w = .ok (.slice (some ⟨g', 0, none⟩) (n + 1) c') w' ∧ OwnAc w' B g' (n + 1) c' (l ++ [x]) ∧ w.grownBy w' (some g) ∧ (g' = g ∨ w.heap.size ≤ g') := by
  obtain ⟨i, E⟩ := elem_ac
  obtain ⟨h1, h2, h3, h4⟩ := ho
  obtain ⟨v', w', hr, ho2, hg, _, hlies⟩ := run_append_own_at (P := Try.prog) w B 43 43 46 i _ 3 3 E.ht E.hi E.hz E.hsize E.hby E.hzs E.hsz _ n _ h1 ⟨bb, 0, none⟩ 1 1 [.bool x.sync, .int .u8 (x.at'.toNat : Int), .int .u8 (x.byte.toNat : Int)] rfl
    (fun j u hu => by
      rw [add_at, Nat.zero_add, hX.cell j]
      exact hu)
    (fun u hu => by
      simp only [List.mem_cons, List.not_mem_nil, or_false] at hu
      rcases hu with rfl | rfl | rfl <;> rfl) (by simp only [maxLen]; omega) (by omega) hB
  rw [← acAll_snoc] at ho2
  have hl := World.ownsRow.lt ho2
  obtain ⟨hlen, h5⟩ := ho2
  rcases h5 with ⟨_, h6⟩ | ⟨g', cap, cur, hv, hrest⟩
  · exfalso
    omega
  · subst hv
    refine ⟨g', cap, w', hr, ⟨⟨hlen, .inr ⟨g', cap, cur, rfl, hrest⟩⟩, by simp [h2], (hl g' rfl).1, (hl g' rfl).2⟩, hg, ?_⟩
    rcases hlies with h | h
    · left; rw [Value.ownBlock, Value.ownBlock] at h; simpa using h
    · right; rw [Value.ownBlock] at h; have : g' = w.heap.size := by simpa using h
      omega

theorem out_move {w : World} {g g' : Nat} {M : List Nat} (hg : g' = g ∨ w.heap.size ≤ g') : ∀ b, (Out (g :: M) b ∧ b < w.heap.size) → Out (g' :: M) b := fun b hb hc => by
  rcases List.mem_cons.1 hc with rfl | hc
  · rcases hg with rfl | hg
    · exact hb.1 (List.mem_cons_self ..)
    · have := hb.2; omega
  · exact hb.1 (List.mem_cons_of_mem _ hc)
theorem keeps_move {w w' : World} {g : Nat} {M : List Nat} (hg : w.grownBy w' (some g)) : Keeps (fun b => Out (g :: M) b ∧ b < w.heap.size) w w' := Keeps.grown hg fun k hk hS => by
  cases hk
  exact hS.1 (List.mem_cons_self ..)
theorem dk_move {w w' : World} {g g' : Nat} {M : List Nat} {Vs Vp : Value} {d : Dk} (h : Hid (DkAt w (Out (g :: M)) Vs Vp d)) (hg : w.grownBy w' (some g)) (hl : g' = g ∨ w.heap.size ≤ g') : Hid (DkAt w' (Out (g' :: M)) Vs Vp d) :=
  Lib.hid (((h.out.weak (fun _ hb hl => ⟨hb, hl⟩)).keep (keeps_move hg)).weak fun b hb _ => out_move hl b hb)
theorem acs_move {w w' : World} {g g' : Nat} {M : List Nat} {v : Value} {l : List Ac} (h : Hid (AcsAt w (Out (g :: M)) v l)) (hg : w.grownBy w' (some g)) (hl : g' = g ∨ w.heap.size ≤ g') : Hid (AcsAt w' (Out (g' :: M)) v l) :=
  Lib.hid (((h.out.weak (fun _ hb hl => ⟨hb, hl⟩)).keep (keeps_move hg)).weak fun b hb _ => out_move hl b hb)
theorem box_move {w w' : World} {b g : Nat} {xs : List Value} (h : Box w b xs) (hg : w.grownBy w' (some g)) (hne : b ≠ g) : Box w' b xs := h.same (hg.block b h.lt (fun e => hne (by injection e)))

/-- double, and Write of what it returns: without and with a fresh box made ahead of them, and between them. -/
abbrev zeroD : Obj := .cells #[.slice none 0 0, .slice none 0 0, .int .i64 0, .bool false] 25
def DbC (W : World) (c : UInt8) : Prop :=
  (∀ z : World, z.heap.size = W.heap.size → Below W.heap.size W z → Calls Try.prog 27 #[.int .u8 (c.toNat : Int)] z fun e wd => ∃ g, e = .returned (.slice (some ⟨g, 0, none⟩) 128 128) ∧ Hid (BsAt wd (fun b => W.heap.size ≤ b) (.slice (some ⟨g, 0, none⟩) 128 128) (doubleB c)) ∧ Below z.heap.size z wd ∧ Below W.heap.size W wd) ∧
  (∀ z : World, z.heap.size = W.heap.size + 1 → Below W.heap.size W z → Calls Try.prog 27 #[.int .u8 (c.toNat : Int)] z fun e wd => ∃ g, e = .returned (.slice (some ⟨g, 0, none⟩) 128 128) ∧ Hid (BsAt wd (fun b => W.heap.size < b) (.slice (some ⟨g, 0, none⟩) 128 128) (doubleB c)) ∧ Below z.heap.size z wd ∧ Below W.heap.size W wd)
theorem dbC (W : World) (c : UInt8) : DbC W c := by
  have hm : (doubleB c).length ≤ maxLen := by rw [double_length]; simp [maxLen]
  constructor
  · intro z hz hb
    refine (dDouble_any c z).mono ?_
    rintro e wd ⟨g, rfl, ho, hbd⟩
    exact ⟨g, rfl, Lib.hid ((ho.bs hm).weak fun b h _ => by have h : z.heap.size ≤ b := h; show W.heap.size ≤ b; omega), hbd, hb.trans (hbd.mono hb.size)⟩
  · intro z hz hb
    refine (dDouble_any c z).mono ?_
    rintro e wd ⟨g, rfl, ho, hbd⟩
    exact ⟨g, rfl, Lib.hid ((ho.bs hm).weak fun b h _ => by have h : z.heap.size ≤ b := h; show W.heap.size < b; omega), hbd, hb.trans (hbd.mono hb.size)⟩
def WrPost (W z : World) (L : List Nat) (ns np' : Nat) (l' : Int) (s' : Bool) (y : Dk) (e : Ending) (w' : World) : Prop :=
  ∃ (Az : Option Addr) (cz : Nat) (Pz : Option Addr) (qz : Nat), e = .returned (.tuple #[.agg #[.slice Az ns cz, .slice Pz np' qz, .int .i64 l', .bool s'], .int .i64 0]) ∧ Hid (DkAt w' (Out L) (.slice Az ns cz) (.slice Pz np' qz) y) ∧ Below W.heap.size W w' ∧ Below z.heap.size z w'
def WrC (W : World) (L : List Nat) (args : Value) (ns np' : Nat) (i : Int) (b : Bs) (l' : Int) (s' : Bool) (y : Dk) : Prop :=
  (∀ (z : World) (V : Value), Below W.heap.size W z → Hid (BsAt z (fun b => W.heap.size ≤ b) V b) → Calls Try.prog 19 #[args, .int .i64 i, V] z (WrPost W z L ns np' l' s' y)) ∧
  (∀ (z : World) (V : Value), Below W.heap.size W z → W.heap.size < z.heap.size → Hid (BsAt z (fun b => W.heap.size < b) V b) → Calls Try.prog 19 #[args, .int .i64 i, V] z (WrPost W z (W.heap.size :: L) ns np' l' s' y)) ∧
  (∀ (z : World) (V : Value), Below W.heap.size W z → Hid (BsAt z (fun b => W.heap.size ≤ b) V b) → Calls Try.prog 19 #[args, .int .i64 i, V] (z.alloc zeroD) (WrPost W (z.alloc zeroD) (z.heap.size :: L) ns np' l' s' y))
theorem wrC {W : World} {L : List Nat} {Ax Px : Option Addr} {ns cx np qx np' : Nat} {l l' : Int} {s s' : Bool} {x y : Dk} {i : Int} {b : Bs} (hD : Hid (DkAt W (Out L) (.slice Ax ns cx) (.slice Px np qx) x)) (hx : DkIs x l s) (hL : InW L W) (hw : writeT x i b = (y, 0)) (h1 : y.sectors.length = ns) (h2 : y.pending.length = np') (h3 : y.left = l') (h4 : y.stopped = s') :
    WrC W L (.agg #[.slice Ax ns cx, .slice Px np qx, .int .i64 l, .bool s]) ns np' i b l' s' y := by
  have key : ∀ (z : World) (V : Value) (M : List Nat), Below W.heap.size W z → InW M z → Hid (DkAt z (Out M) (.slice Ax ns cx) (.slice Px np qx) x) → Hid (BsAt z (Out M) V b) → Calls Try.prog 19 #[.agg #[.slice Ax ns cx, .slice Px np qx, .int .i64 l, .bool s], .int .i64 i, V] z (WrPost W z M ns np' l' s' y) := by
    intro z V M hz hM hDz hbs
    have := dWrite_at i hDz hx hbs
    rw [hw] at this
    refine this.mono fun e w' hh => ?_
    obtain ⟨Az, cz, Pz, qz, he, Dz, hbz⟩ := RetDk.is hh hM (Lib.hid rfl) (Lib.hid h1) (Lib.hid h2) (Lib.hid h3) (Lib.hid h4)
    exact ⟨Az, cz, Pz, qz, he, Dz, hz.trans (hbz.mono hz.size), hbz⟩
  refine ⟨?_, ?_, ?_⟩
  · intro z V hz hbs
    exact key z V L hz (hL.later hz.size) (dk_later hD hz) (Lib.hid (hbs.out.weak fun c hc _ hm => by have := hL c hm; have hc : W.heap.size ≤ c := hc; omega))
  · intro z V hz hzl hbs
    exact key z V _ hz ((hL.later hz.size).cons hzl) (dk_later (dk_more (Nat.le_refl _) hD) hz) (Lib.hid (hbs.out.weak fun c hc _ hm => by
      have hc : W.heap.size < c := hc
      rcases List.mem_cons.1 hm with rfl | hm
      · omega
      · have := hL c hm; omega))
  · intro z V hz hbs
    have ha := (Below.refl z.heap.size z).alloc (Nat.le_refl _) zeroD
    exact key _ V _ (hz.trans (ha.mono hz.size)) (((hL.later hz.size).later ha.size).cons (by simp)) (dk_later (dk_more (Nat.le_refl _) (dk_later hD hz)) ha) (bs_later (Lib.hid (hbs.out.weak fun c hc hl hm => by
      have hc : W.heap.size ≤ c := hc
      rcases List.mem_cons.1 hm with rfl | hm
      · omega
      · have := hL c hm; omega)) ha)

end Go.Proofs.Ytdmeogkdoeaemaa
