/-
  Slices whose elements lie in blocks of a given kind; append, clone and stores over them. No condition.
-/
import Derived.Test.YtdmeogkdoeaemaaKA
import Derived.Laws.CopyRow
import Derived.Laws.IdiomCopy
namespace Go.Proofs.Ytdmeogkdoeaemaa
open Go.RowKit

/-- v IS A SLICE OF n ELEMENTS OF size CELLS EACH, in blocks of the kind S: the j-th cell of the i-th element holds g i j. -/
def SlP (w : World) (S : Nat → Prop) (size n : Nat) (g : Nat → Nat → Value) (v : Value) : Prop :=
  ∃ A c, v = .slice A n c ∧ n ≤ maxLen ∧ ∀ i, i < n → ∃ b off, A = some ⟨b, off, none⟩ ∧ S b ∧ b < w.heap.size ∧ ∀ j, j < size → w.cell? ⟨b, off + (i * size + j), none⟩ = some (g i j)
/-- The blocks of the kind S lie in w' as they lay in w. -/
def Keeps (S : Nat → Prop) (w w' : World) : Prop := w.heap.size ≤ w'.heap.size ∧ ∀ b, S b → b < w.heap.size → w'.heap[b]? = w.heap[b]?
/-- S, and what is made from w on. -/
def Grow (S : Nat → Prop) (w : World) : Nat → Prop := fun b => S b ∨ w.heap.size ≤ b
theorem Keeps.of {S : Nat → Prop} {w w' : World} (h : Below w.heap.size w w') : Keeps S w w' := ⟨h.size, fun b _ hb => h.block b hb⟩
theorem Keeps.refl (S : Nat → Prop) (w : World) : Keeps S w w := ⟨Nat.le_refl _, fun _ _ _ => rfl⟩
theorem Keeps.trans {S : Nat → Prop} {w w' w'' : World} (h : Keeps S w w') (k : Keeps S w' w'') : Keeps S w w'' :=
  ⟨Nat.le_trans h.1 k.1, fun b hS hb => (k.2 b hS (Nat.lt_of_lt_of_le hb h.1)).trans (h.2 b hS hb)⟩
theorem Keeps.set {S : Nat → Prop} (w : World) {a : Addr} (h : ¬ S a.block) (u : Value) : Keeps S w (w.setCell a u) :=
  ⟨by simp, fun b hS _ => Below.heap_setCell w a u b (fun e => h (e ▸ hS))⟩
theorem Keeps.row {S : Nat → Prop} (w : World) {g : Nat} (h : ¬ S g) (cs : Array Value) : Keeps S w (w.setRow g cs) :=
  ⟨by simp [World.setRow], fun b hS _ => setRow_other w g b cs (fun e => h (e ▸ hS))⟩
theorem Keeps.from {S : Nat → Prop} {B : Nat} {w w' : World} (h : Below B w w') (hS : ∀ b, S b → b < w.heap.size → b < B) : Keeps S w w' :=
  ⟨h.size, fun b hb hl => h.block b (hS b hb hl)⟩
theorem Keeps.grown {S : Nat → Prop} {w w' : World} {row : Option Nat} (h : w.grownBy w' row) (hr : ∀ k, row = some k → ¬ S k) : Keeps S w w' := by
  refine ⟨h.size, fun b hS hl => h.block b hl (fun e => ?_)⟩
  exact hr b e.symm hS

theorem SlP.keep {w w' : World} {S : Nat → Prop} {size n : Nat} {g : Nat → Nat → Value} {v : Value} (h : SlP w S size n g v) (hk : Keeps S w w') : SlP w' S size n g v := by
  obtain ⟨A, c, hv, hm, h1⟩ := h
  refine ⟨A, c, hv, hm, fun i hi => ?_⟩
  obtain ⟨b, off, ha, hb, hl, h3⟩ := h1 i hi
  exact ⟨b, off, ha, hb, Nat.lt_of_lt_of_le hl hk.1, fun j hj => by rw [World.cell?_of_block (w := w) (hk.2 b hb hl)]; exact h3 j hj⟩
theorem SlP.weak {w : World} {S S' : Nat → Prop} {size n : Nat} {g : Nat → Nat → Value} {v : Value} (h : SlP w S size n g v) (hk : ∀ b, S b → b < w.heap.size → S' b) : SlP w S' size n g v := by
  obtain ⟨A, c, hv, hm, h1⟩ := h
  refine ⟨A, c, hv, hm, fun i hi => ?_⟩
  obtain ⟨b, off, ha, hb, hl, h3⟩ := h1 i hi
  exact ⟨b, off, ha, hk b hb hl, hl, h3⟩
theorem SlP.sl {w : World} {S : Nat → Prop} {size n : Nat} {g : Nat → Nat → Value} {v : Value} (h : SlP w S size n g v) : Sl w w.heap.size size n g v := by
  obtain ⟨A, c, hv, hm, h1⟩ := h
  refine ⟨A, c, hv, hm, fun i hi => ?_⟩
  obtain ⟨b, off, ha, _, hb, h3⟩ := h1 i hi
  exact ⟨b, off, ha, hb, h3⟩
theorem Sl.slp {w : World} {B size n : Nat} {g : Nat → Nat → Value} {v : Value} (h : Sl w B size n g v) (hB : B ≤ w.heap.size) : SlP w (fun b => b < B) size n g v := by
  obtain ⟨A, c, hv, hm, h1⟩ := h
  refine ⟨A, c, hv, hm, fun i hi => ?_⟩
  obtain ⟨b, off, ha, hb, h3⟩ := h1 i hi
  exact ⟨b, off, ha, hb, Nat.lt_of_lt_of_le hb hB, h3⟩
theorem SlP.congr {w : World} {S : Nat → Prop} {size n : Nat} {g h : Nat → Nat → Value} {v : Value} (hs : SlP w S size n g v) (he : ∀ i j, i < n → j < size → g i j = h i j) : SlP w S size n h v := by
  obtain ⟨A, c, hv, hm, h1⟩ := hs
  refine ⟨A, c, hv, hm, fun i hi => ?_⟩
  obtain ⟨b, off, ha, hb, hl, h3⟩ := h1 i hi
  exact ⟨b, off, ha, hb, hl, fun j hj => by rw [h3 j hj, he i j hi hj]⟩
theorem SlP.form {w : World} {S : Nat → Prop} {size n : Nat} {g : Nat → Nat → Value} {v : Value} (h : SlP w S size n g v) : ∃ A c, v = .slice A n c ∧ n ≤ maxLen := by
  obtain ⟨A, c, hv, hm, _⟩ := h
  exact ⟨A, c, hv, hm⟩
theorem slP_nil (w : World) (S : Nat → Prop) (size : Nat) (g : Nat → Nat → Value) : SlP w S size 0 g (.slice none 0 0) := ⟨none, 0, rfl, Nat.zero_le _, fun i hi => by omega⟩
/-- What a row that the call owns holds. -/
theorem own_slp {w : World} {base e size n : Nat} {g : Nat → Nat → Value} {v : Value} (h : w.ownsRow base e size v n (flat n size g)) (hn : n ≤ maxLen) : SlP w (fun b => base ≤ b) size n g v ∧ SlF v := by
  obtain ⟨⟨A, c, hv, hm, h1⟩, hf⟩ := own_sl2 (D := 0) h hn
  refine ⟨⟨A, c, hv, hm, fun i hi => ?_⟩, hf⟩
  obtain ⟨b, off, ha, hb, hl, h3⟩ := h1 i hi
  exact ⟨b, off, ha, by omega, hl, h3⟩
/-- A part of a slice. -/
theorem SlP.part {w : World} {S : Nat → Prop} {size n c : Nat} {g : Nat → Nat → Value} {b off : Nat} (h : SlP w S size n g (.slice (some ⟨b, off, none⟩) n c)) (i m c' : Nat) (him : i + m ≤ n) : SlP w S size m (fun k j => g (i + k) j) (.slice (some ⟨b, off + i * size, none⟩) m c') := by
  obtain ⟨A, c0, hv, hm, h1⟩ := h
  cases hv
  refine ⟨_, _, rfl, by omega, fun k hk => ?_⟩
  obtain ⟨b', off', ha, hb, hl, h3⟩ := h1 (i + k) (by omega)
  cases ha
  exact ⟨b, _, rfl, hb, hl, fun j hj => by rw [← h3 j hj]; congr 2; rw [Nat.add_mul]; omega⟩

section
variable {t e : TypeId} {i : TypeInfo} {z : Value} {size bytes : Nat}
/-- append where there is no room, or nothing to append. -/
theorem run_app_p (E : Elem t e i z size bytes) (ty : TypeId) {w : World} {S : Nat → Prop} {n m cap : Nat} {A : Option Addr} {g h : Nat → Nat → Value} {x : Value} (hv : SlP w S size n g (.slice A n cap)) (hvf : SlF (.slice A n cap)) (hx : Sl w w.heap.size size m h x) (hxf : SlF x)
    (h1 : ∀ k j, k < m → j < size → (h k j).oneCell' = true) (hcap : cap < n + m ∨ m = 0) (h63 : n + m ≤ maxLen) (hbytes : (n + m) * bytes ≤ 140737488355328) :
    ∃ v' w', (Builtin.append_ #[t, t] ty #[.slice A n cap, x]).run Try.prog w = .ok v' w' ∧ SlP w' (Grow S w) size (n + m) (cat n g h) v' ∧ SlF v' ∧ Below w.heap.size w w' := by
  rcases hcap with hcap | rfl
  · rcases Nat.eq_zero_or_pos m with rfl | hm0
    · have : n ≤ cap := by
        rcases hvf with h0 | ⟨a, n', c', h0, hnc, _⟩
        · injection h0 with _ h1 h2; omega
        · injection h0 with _ h1 h2; omega
      omega
    · rcases hvf with h0 | ⟨a, n', c', h0, hnc, hcm⟩
      · obtain ⟨rfl, rfl, rfl⟩ : A = none ∧ n = 0 ∧ cap = 0 := by simpa using h0
        have hown : w.ownsRow w.heap.size e size (.slice none 0 0) 0 (flat 0 size g) := ⟨by simp [flat], .inl ⟨rfl, rfl⟩⟩
        obtain ⟨v', w', hr, ho, hg⟩ := run_app_own E ty hown hx hxf h1 h63 hbytes (Nat.le_refl _)
        obtain ⟨s1, s2⟩ := own_slp ho h63
        exact ⟨v', w', hr, s1.weak (fun b hb _ => .inr hb), s2, (Below.refl _ _).grown hg (Nat.le_refl _) (fun k hk => by cases hk)⟩
      · obtain ⟨rfl, rfl, rfl⟩ : A = some a ∧ n = n' ∧ cap = c' := by simpa using h0
        obtain ⟨_, hnm, hold⟩ := hv.sl.src E.hsz
        rcases hxf with rfl | ⟨ax, k, c, rfl, _, _⟩
        · obtain ⟨_, rfl⟩ := hx.none_zero
          omega
        · obtain ⟨rfl, hm, hsrc⟩ := hx.src E.hsz
          have hone : ∀ u ∈ flat k size h, u.oneCell' = true := fun u hu => by obtain ⟨p, q, hp, hq, rfl⟩ := flat_mem E.hsz hu; exact h1 p q hp hq
          obtain ⟨v', w', hr, ho, hg⟩ := run_append_arg_grows (P := Try.prog) w (ty := ty) t e i z size bytes E.ht E.hi E.hz E.hsize E.hby E.hzs E.hsz a n cap (flat n size g) (flat_length _ _ _) hold ax k c (flat k size h) (flat_length _ _ _) hsrc hcap h63 hbytes
          rw [← flat_cat n k size E.hsz] at ho
          obtain ⟨s1, s2⟩ := own_slp ho h63
          exact ⟨v', w', hr, s1.weak (fun b hb _ => .inr hb), s2, (Below.refl _ _).grown hg (Nat.le_refl _) (fun k hk => by cases hk)⟩
  · have key : SlP w (Grow S w) size (n + 0) (cat n g h) (.slice A n cap) := by
      refine ((hv.weak (fun b hb _ => .inl hb)) : SlP w (Grow S w) size n g _).congr fun i j hi _ => ?_
      rw [cat, if_pos hi]
    refine ⟨_, w, ?_, key, hvf, Below.refl _ _⟩
    rcases hvf with h0 | ⟨a, n', c', h0, hnc, hcm⟩
    · obtain ⟨rfl, rfl, rfl⟩ : A = none ∧ n = 0 ∧ cap = 0 := by simpa using h0
      rcases hxf with rfl | ⟨ax, k, c, rfl, _, _⟩
      · simp [Builtin.append_, run_underlying E.ht, sizeOf, typeInfo, E.hi, Builtin.lenOf, Builtin.firstCells]
      · obtain ⟨rfl, hm, hsrc⟩ := hx.src E.hsz
        have hl : (loadCells ax 0).run Try.prog w = .ok #[] w := by simpa using run_loadCells_list (P := Try.prog) w ax [] (fun j v hj => by simp at hj)
        simp [Builtin.append_, run_underlying E.ht, sizeOf, typeInfo, E.hi, Builtin.lenOf, Builtin.firstCells, hl]
    · obtain ⟨rfl, rfl, rfl⟩ : A = some a ∧ n = n' ∧ cap = c' := by simpa using h0
      rcases hxf with rfl | ⟨ax, k, c, rfl, _, _⟩
      · simp [Builtin.append_, run_underlying E.ht, sizeOf, typeInfo, E.hi, Builtin.lenOf, hnc, Builtin.firstCells, storeCells]
      · obtain ⟨rfl, hm, hsrc⟩ := hx.src E.hsz
        have hl : (loadCells ax 0).run Try.prog w = .ok #[] w := by simpa using run_loadCells_list (P := Try.prog) w ax [] (fun j v hj => by simp at hj)
        simp [Builtin.append_, run_underlying E.ht, sizeOf, typeInfo, E.hi, Builtin.lenOf, hnc, Builtin.firstCells, storeCells, hl]
end

theorem flat_congr' {n size : Nat} {g h : Nat → Nat → Value} (hs : 0 < size) (he : ∀ i j, i < n → j < size → g i j = h i j) : flat n size g = flat n size h := by
  apply List.map_congr_left
  intro j hj
  have hj := List.mem_range.1 hj
  exact he _ _ ((Nat.div_lt_iff_lt_mul hs).2 hj) (Nat.mod_lt _ hs)
theorem flat_one (n : Nat) (V : Nat → Value) : flat n 1 (fun i _ => V i) = (List.range n).map V := by simp [flat]
/-- S, of what there is in w. -/
def Old (S : Nat → Prop) (w : World) : Nat → Prop := fun b => S b ∧ b < w.heap.size
/-- A cell of a row that the call owns is stored. -/
theorem own_set {w : World} {base e g i n c : Nat} {xs : List Value} (h : w.ownsRow base e 1 (.slice (some ⟨g, 0, none⟩) n c) n xs) (u : Value) :
    (w.setCell ⟨g, i, none⟩ u).ownsRow base e 1 (.slice (some ⟨g, 0, none⟩) n c) n (xs.set i u) := by
  obtain ⟨hl, h⟩ := h
  rcases h with ⟨h1, _⟩ | ⟨g', cap, cur, hv, hb, hg, hc, hcm, hs, hx⟩
  · cases h1
  · cases hv
    refine ⟨by simpa using hl, .inr ⟨g, c, cur.setIfInBounds i u, rfl, hb, ?_, hc, hcm, by simpa using hs, ?_⟩⟩
    · show (w.heap.modify g _)[g]? = _
      rw [Array.getElem?_modify, if_pos rfl, hg]
      simp
    · rw [← hx, Array.toList_setIfInBounds, Nat.mul_one, List.take_set]
theorem own_cell {w : World} {base e g n c : Nat} {xs : List Value} (h : w.ownsRow base e 1 (.slice (some ⟨g, 0, none⟩) n c) n xs) :
    base ≤ g ∧ g < w.heap.size ∧ (∀ i, i < n → w.cell? ⟨g, i, none⟩ = xs[i]?) ∧ ∀ i, w.frozen? ⟨g, i, none⟩ = false := by
  obtain ⟨hl, h⟩ := h
  rcases h with ⟨h1, _⟩ | ⟨g', cap, cur, hv, hb, hg, hc, hcm, hs, hx⟩
  · cases h1
  · cases hv
    refine ⟨hb, (Array.getElem?_eq_some_iff.1 hg).1, fun i hi => ?_, fun i => by simp [World.frozen?, hg]⟩
    rw [← hx, List.getElem?_take, if_pos (by omega)]
    simp [World.cell?, hg]

/-- copy behind a name, as append. -/
noncomputable def copF (ats : Array TypeId) (ty : TypeId) (args : Array Value) : Sem Value := Builtin.copy_ ats ty args
theorem cop_named {ats : Array TypeId} {ty : TypeId} {cs : Array Bool} {args : Array Value} : builtin .copy ats ty cs args = (do pure (.value (← copF ats ty args))) := rfl

/-- copy into the head of a row that the call owns. -/
theorem own_copy {t e : TypeId} {i : TypeInfo} {z : Value} {bytes : Nat} (E : Elem t e i z 1 bytes) (ty : TypeId) {w : World} {base ee g n c d dc m mc : Nat} {A : Option Addr} {xs : List Value} {h : Nat → Nat → Value} (ho : w.ownsRow base ee 1 (.slice (some ⟨g, 0, none⟩) n c) n xs) (hd : d ≤ n)
    (hx : Sl w w.heap.size 1 m h (.slice A m mc)) (h1 : ∀ k, k < m → (h k 0).oneCell' = true) :
    ∃ w', (copF #[t, t] ty #[.slice (some ⟨g, 0, none⟩) d dc, .slice A m mc]).run Try.prog w = .ok (goInt (Nat.min m d)) w' ∧ w'.ownsRow base ee 1 (.slice (some ⟨g, 0, none⟩) n c) n ((List.range (Nat.min m d)).map (fun k => h k 0) ++ xs.drop (Nat.min m d)) ∧ w.grownBy w' (some g) := by
  have hu := E.ht
  have hs : (Try.prog.info? e).map (·.size) = some 1 := by rw [E.hi]; simp [E.hsize]
  obtain ⟨hl, ho'⟩ := ho
  rcases ho' with ⟨h0, _⟩ | ⟨g', cap, cur, hv, hb, hg, hc, hcm, hsz, hxs⟩
  · cases h0
  · cases hv
    obtain ⟨k, hk⟩ : ∃ k, Nat.min m d = k := ⟨_, rfl⟩
    have hkm : k ≤ m := by rw [← hk]; exact Nat.min_le_left _ _
    have hkd : k ≤ d := by rw [← hk]; exact Nat.min_le_right _ _
    rw [hk]
    rcases Nat.eq_zero_or_pos k with rfl | hk0
    · refine ⟨w, ?_, ?_, ⟨rfl, rfl, rfl, Nat.le_refl _, fun _ _ _ => rfl⟩⟩
      · exact run_copy_none (P := Try.prog) w t t ty e _ _ d dc m mc hu hs hk
      · simpa using ⟨hl, .inr ⟨g, c, cur, rfl, hb, hg, hc, hcm, hsz, hxs⟩⟩
    · obtain ⟨a, rfl⟩ : ∃ a, A = some a := by
        rcases A with _ | a
        · have := hx.none_zero; omega
        · exact ⟨a, rfl⟩
      obtain ⟨_, _, hsrc⟩ := hx.src (by decide)
      have hlen : ((List.range k).map (fun k => h k 0)).length = k := by simp
      have hcs : ∀ j v, ((List.range k).map (fun k => h k 0))[j]? = some v → w.cell? (a.add j) = some v := by
        intro j v hj
        have hjk : j < k := by rw [← hlen]; exact (List.getElem?_eq_some_iff.1 hj).1
        rw [List.getElem?_map, List.getElem?_range hjk] at hj
        cases hj
        refine hsrc j _ ?_
        have := flat_at (n := m) (size := 1) h (i := j) (j := 0) (by omega) (by decide)
        simpa using this
      have hrun := run_copy_row (P := Try.prog) w t t ty e g 0 d dc a m mc cur ee ((List.range k).map (fun k => h k 0)) hu hs hg (by rw [hlen, hk]) hcs (by rw [hlen, hsz]; omega) (fun v hv => by
        obtain ⟨j, hj, rfl⟩ := List.mem_map.1 hv
        exact h1 j (by have := List.mem_range.1 hj; omega))
      rw [hlen] at hrun
      refine ⟨_, hrun, ⟨?_, .inr ⟨g, c, _, rfl, hb, setRow_heap w g _ _ _ _ hg, hc, hcm, ?_, ?_⟩⟩, ⟨rfl, rfl, rfl, by simp [World.setRow], fun b _ hne => setRow_other w g b _ (fun e => hne (by rw [e]))⟩⟩
      · simp [hl]; omega
      · simp [hsz]; omega
      · simp only [List.take_zero, List.nil_append, Nat.zero_add, Nat.mul_one]
        rw [← hxs, Nat.mul_one, List.take_append, hlen, List.take_of_length_le (by rw [hlen]; omega), List.drop_take]

end Go.Proofs.Ytdmeogkdoeaemaa
