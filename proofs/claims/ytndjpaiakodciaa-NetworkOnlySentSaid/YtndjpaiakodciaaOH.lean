/-
  append onto such a list. No condition.
-/
import Derived.Test.YtndjpaiakodciaaOG
namespace Go.Proofs.Ytndjpaiakodciaa
open Go.RowKit

theorem rest_old {q : List Pk} {p : Pk} {V : Nat → Value} {Vd : Value} {i j : Nat} (hi : i < q.length) : restCells (q ++ [p]) (fun k => if k < q.length then V k else Vd) i j = pkCells q V i j := by
  rw [restCells, if_pos (by rw [List.length_append]; omega)]
  unfold pkCells
  simp only [List.getD_eq_getElem?_getD, List.getElem?_append_left hi, if_pos hi]
theorem rest_new {q : List Pk} {p : Pk} {V : Nat → Value} {Vd : Value} {j : Nat} (hj : j < 3) : [Value.int .i64 p.src, .int .i64 p.dst, Vd][j]? = some (restCells (q ++ [p]) (fun k => if k < q.length then V k else Vd) q.length j) := by
  rw [restCells, if_pos (by rw [List.length_append]; simp)]
  unfold pkCells
  simp only [List.getD_eq_getElem?_getD, List.getElem?_append_right (Nat.le_refl _), Nat.sub_self, if_neg (Nat.lt_irrefl _)]
  match j, hj with
  | 0, _ => rfl
  | 1, _ => rfl
  | 2, _ => rfl
theorem rest_past {q : List Pk} {V : Nat → Value} {i j : Nat} (hi : q.length ≤ i) (hj : j < 3) : restCells q V i j = [Value.int .i64 0, .int .i64 0, .slice none 0 0][j]! := by
  rw [restCells, if_neg (by omega)]
  match j, hj with
  | 0, _ => rfl
  | 1, _ => rfl
  | 2, _ => rfl
theorem zero_at {k i j : Nat} (hi : i < k) (hj : j < 3) : (Builtin.zeroCells #[Value.int .i64 0, .int .i64 0, .slice none 0 0] k)[i * 3 + j]? = some ([Value.int .i64 0, .int .i64 0, .slice none 0 0][j]!) := by
  unfold Builtin.zeroCells
  have hlt : i * 3 + j < k * 3 := by omega
  have hm : (i * 3 + j) % 3 = j := by omega
  rw [Array.getElem?_map, Array.getElem?_range]
  simp only [List.size_toArray, List.length_cons, List.length_nil, Nat.reduceAdd]
  rw [if_pos hlt]
  simp only [Option.map_some, hm]
  match j, hj with
  | 0, _ => rfl
  | 1, _ => rfl
  | 2, _ => rfl
/-- The cells of a new row. -/
theorem new_row {q : List Pk} {p : Pk} {V : Nat → Value} {Vd : Value} {k : Nat} {i j : Nat} (hi : i < q.length + 1 + k) (hj : j < 3) :
    ((flat q.length 3 (pkCells q V)).toArray ++ [Value.int .i64 p.src, .int .i64 p.dst, Vd].toArray ++ Builtin.zeroCells #[Value.int .i64 0, .int .i64 0, .slice none 0 0] k)[i * 3 + j]? = some (restCells (q ++ [p]) (fun k => if k < q.length then V k else Vd) i j) := by
  have hfl : (flat q.length 3 (pkCells q V)).toArray.size = q.length * 3 := by simp [flat_length]
  rcases Nat.lt_trichotomy i q.length with h | rfl | h
  · rw [Array.append_assoc, Array.getElem?_append_left (by rw [hfl]; omega), List.getElem?_toArray, flat_at _ h hj, rest_old h]
  · rw [Array.append_assoc, Array.getElem?_append_right (by rw [hfl]; omega), hfl, show q.length * 3 + j - q.length * 3 = j by omega, Array.getElem?_append_left (by simpa using hj), List.getElem?_toArray]
    exact rest_new hj
  · rw [Array.getElem?_append_right (by rw [Array.size_append, hfl]; simp; omega), Array.size_append, hfl]
    have e : i * 3 + j - (q.length * 3 + [Value.int .i64 p.src, .int .i64 p.dst, Vd].toArray.size) = (i - q.length - 1) * 3 + j := by simp; omega
    rw [e, zero_at (by omega) hj, rest_past (by rw [List.length_append]; simp; omega) hj]
theorem row_flat {w : World} {g cap : Nat} {q : List Pk} {V : Nat → Value} (h : RowAt w g cap q V) : ∀ j u, (flat q.length 3 (pkCells q V))[j]? = some u → w.cell? ((⟨g, 0, none⟩ : Addr).add j) = some u := by
  intro j u hu
  have hj : j < q.length * 3 := by rw [← flat_length q.length 3 (pkCells q V)]; exact (List.getElem?_eq_some_iff.1 hu).1
  have hi : j / 3 < q.length := (Nat.div_lt_iff_lt_mul (by decide)).2 hj
  have hr := Nat.mod_lt j (show 0 < 3 by decide)
  have e : j / 3 * 3 + j % 3 = j := by omega
  have a2 := flat_at (pkCells q V) hi hr
  rw [e, hu] at a2
  have := h.cell (Nat.lt_of_lt_of_le hi h.le) hr
  rw [e, restCells, if_pos hi] at this
  rw [add_at, Nat.zero_add, this, a2]

/-- What such an append leaves as it was. -/
structure Kept (base : Nat) (w w' : World) : Prop where
  below : Below base w w'
  net : ∀ {Vq Va : Value} {n : Net}, n.okB = true → NetAt w w.heap.size Vq Va n → NetAt w' w'.heap.size Vq Va n
  bytes : ∀ {U : Value} {l : List UInt8}, BytesAt w w.heap.size U l → BytesAt w' w'.heap.size U l
  boxn : ∀ {b : Nat} {A1 A2 : Option Addr} {k1 c1 k2 c2 : Nat}, Box w b [.slice A1 k1 c1, .slice A2 k2 c2] → Box w' b [.slice A1 k1 c1, .slice A2 k2 c2]
theorem Kept.of {base : Nat} {w w' : World} (hb : Below w.heap.size w w') (h : base ≤ w.heap.size) : Kept base w w' := ⟨hb.mono h, fun _ hn => hn.later hb, fun hn => hn.later hb, fun hx => hx.later hb⟩

theorem rest_grow {w : World} {base : Nat} {q : List Pk} {p : Pk} {V : Nat → Value} {Vd : Value} {k : Nat} (hbase : base ≤ w.heap.size) (hd : ∀ (i : Nat) (x : Pk), q[i]? = some x → BytesAt w w.heap.size (V i) x.data) (hV : BytesAt w w.heap.size Vd p.data) (hk : q.length + 1 + k ≤ maxLen) :
    RestAt (w.drew.alloc (.cells ((flat q.length 3 (pkCells q V)).toArray ++ [Value.int .i64 p.src, .int .i64 p.dst, Vd].toArray ++ Builtin.zeroCells #[Value.int .i64 0, .int .i64 0, .slice none 0 0] k) 28)) base (.slice (some ⟨w.heap.size, 0, none⟩) (q.length + 1) (q.length + 1 + k)) (q ++ [p]) := by
  have hb : Below w.heap.size w (w.drew.alloc (.cells ((flat q.length 3 (pkCells q V)).toArray ++ [Value.int .i64 p.src, .int .i64 p.dst, Vd].toArray ++ Builtin.zeroCells #[Value.int .i64 0, .int .i64 0, .slice none 0 0] k) 28)) := ((Below.refl _ _).drew).alloc (Nat.le_refl _) _
  refine .inr ⟨w.heap.size, q.length + 1 + k, fun i => if i < q.length then V i else Vd, by rw [List.length_append]; rfl, hbase, hk, ⟨by rw [List.length_append]; simp, ⟨_, World.alloc_heap_new w.drew _, ?_, fun i j hi hj => new_row hi hj⟩, fun i x hx => ?_⟩⟩
  · simp only [Array.size_append, List.size_toArray, flat_length, size_zeroCells, List.length_cons, List.length_nil]
    omega
  · by_cases h : i < q.length
    · rw [if_pos h]
      exact (hd i x (by rw [List.getElem?_append_left h] at hx; exact hx)).later hb
    · rw [if_neg h]
      have hi : i = q.length := by
        have := (List.getElem?_eq_some_iff.1 hx).1
        simp at this; omega
      subst hi
      rw [List.getElem?_append_right (Nat.le_refl _), Nat.sub_self] at hx
      simp at hx
      subst hx
      exact hV.later hb

theorem run_rest (ty : TypeId) {w : World} {base b : Nat} {v Vd : Value} {q : List Pk} {p : Pk} (hq : RestAt w base v q) (hX : Box w b [.int .i64 p.src, .int .i64 p.dst, Vd]) (hV : BytesAt w w.heap.size Vd p.data) (hbase : base ≤ w.heap.size) (hsz : q.length + 1 ≤ 1048576) :
    ∃ A n c w', (Builtin.append_ #[22, 22] ty #[v, .slice (some ⟨b, 0, none⟩) 1 1]).run Try.prog w = .ok (.slice A n c) w' ∧ RestAt w' base (.slice A n c) (q ++ [p]) ∧ Kept base w w' := by
  obtain ⟨i, hi, h0, h1, h2⟩ := info_parts info_pk
  have hnews : ∀ j u, [Value.int .i64 p.src, .int .i64 p.dst, Vd][j]? = some u → w.cell? ((⟨b, 0, none⟩ : Addr).add j) = some u := by
    intro j u hu
    rw [add_at, Nat.zero_add, hX.cell, hu]
  have hl : [Value.int .i64 p.src, .int .i64 p.dst, Vd].length = 1 * i.size := by rw [h1]; rfl
  have hz : (Value.agg #[.int .i64 0, .int .i64 0, .slice none 0 0]).cells = #[Value.int .i64 0, .int .i64 0, .slice none 0 0] := by rfl
  rcases hq with ⟨rfl, rfl⟩ | ⟨g, cap, V, rfl, hbg, hcm, hr⟩
  · have hrun := run_append_nil (P := Try.prog) w 22 ty 28 i _ Try.underlying22 hi h0 ⟨b, 0, none⟩ 1 1 _ hl hnews (by decide) (by decide) (by rw [h2]; decide)
    rw [hz] at hrun
    have hcg := grownCap_ge w 1 0 28
    have hcl := grownCap_le_maxLen w 1 0 28 (by simp [maxLen])
    generalize grownCap w 1 0 28 = cp at hrun hcg hcl
    have key := rest_grow (w := w) (q := []) (p := p) (V := fun _ => undef) (k := cp - 1) hbase (fun i x hx => by simp at hx) hV (by simp; omega)
    simp only [flat, List.length_nil, Nat.zero_mul, List.range_zero, List.map_nil, Array.empty_append, List.nil_append, Nat.zero_add] at key
    rw [show 1 + (cp - 1) = cp by omega] at key
    exact ⟨_, _, _, _, hrun, key, Kept.of (((Below.refl _ _).drew).alloc (Nat.le_refl _) _) hbase⟩
  · by_cases hroom : q.length + 1 ≤ cap
    · obtain ⟨cur, hg, hs, hc⟩ := hr.cells
      have hone : ∀ u ∈ [Value.int .i64 p.src, .int .i64 p.dst, Vd], u.oneCell' = true := by
        intro u hu
        obtain ⟨A, c, e, _⟩ := hV.form
        simp only [List.mem_cons, List.mem_nil_iff, or_false] at hu
        rcases hu with rfl | rfl | rfl
        · rfl
        · rfl
        · rw [e]; rfl
      have hrun := run_append_room (P := Try.prog) w 22 ty 28 i Try.underlying22 hi g q.length cap cur hg ⟨b, 0, none⟩ 1 1 _ hl hnews hone hroom (by rw [h1, hs]; simp; omega)
      rw [h1] at hrun
      have hlen : cur.toList.length = cap * 3 := by simpa using hs
      have htk : (cur.toList.take (q.length * 3)).length = q.length * 3 := by rw [List.length_take, hlen]; omega
      generalize hcu : cur.toList.take (q.length * 3) ++ [Value.int .i64 p.src, .int .i64 p.dst, Vd] ++ cur.toList.drop (q.length * 3 + [Value.int .i64 p.src, .int .i64 p.dst, Vd].length) = cu at hrun
      have a1 : ∀ o, o < q.length * 3 → cu[o]? = cur[o]? := fun o ho => by
        rw [← hcu, List.append_assoc, List.getElem?_append_left (by rw [htk]; exact ho), List.getElem?_take, if_pos ho, Array.getElem?_toList]
      have a2 : ∀ j, j < 3 → cu[q.length * 3 + j]? = [Value.int .i64 p.src, .int .i64 p.dst, Vd][j]? := fun j hj => by
        rw [← hcu, List.append_assoc, List.getElem?_append_right (by rw [htk]; omega), htk, show q.length * 3 + j - q.length * 3 = j by omega, List.getElem?_append_left (by simpa using hj)]
      have a3 : ∀ o, q.length * 3 + 3 ≤ o → cu[o]? = cur[o]? := fun o ho => by
        rw [← hcu, List.getElem?_append_right (by rw [List.length_append, htk]; simpa using ho), List.length_append, htk, List.getElem?_drop, Array.getElem?_toList]
        congr 1
        simp only [List.length_cons, List.length_nil]
        omega
      have hsz2 : cu.length = cap * 3 := by
        rw [← hcu, List.length_append, List.length_append, htk, List.length_drop, hlen]
        simp
        omega
      have hg2 := setRow_heap w g cur cu.toArray _ _ hg
      have hK : KeepsCells g q.length w (w.setRow g cu.toArray) := by
        refine ⟨by simp, fun b' o ho hb' => ?_⟩
        by_cases hbg' : b' = g
        · subst hbg'
          simp only [World.cell?, hg2, hg]
          rw [List.getElem?_toArray]
          rcases ho with h | h | h
          · exact absurd rfl h
          · exact a1 o h
          · exact a3 o h
        · rw [World.cell?_of_block (w := w) (setRow_other w g b' _ hbg')]
      have hbel : Below base w (w.setRow g cu.toArray) := ⟨rfl, rfl, rfl, by simp, fun k hk => setRow_other w g k _ (by omega)⟩
      refine ⟨_, _, _, _, hrun, .inr ⟨g, cap, fun k => if k < q.length then V k else Vd, by rw [List.length_append]; rfl, hbg, hcm, ⟨by rw [List.length_append]; exact hroom, ⟨cu.toArray, hg2, by simpa using hsz2, fun i' j hi' hj => ?_⟩, fun i' x hx => ?_⟩⟩, ⟨hbel, fun hn h => hK.net hr hn h, fun h => hK.bytes hr h, fun {b'} _ _ _ _ _ _ hx => hx.same (setRow_other w g b' _ (by
        rintro rfl
        rcases (hr.kind (o := 0) (hx.cell 0)).2 with ⟨h, _⟩ | ⟨_, z, h, _⟩
        · omega
        · cases h))⟩⟩
      · rw [List.getElem?_toArray]
        rcases Nat.lt_trichotomy i' q.length with h | rfl | h
        · rw [a1 _ (by omega), hc i' j hi' hj, rest_old h, restCells, if_pos h]
        · rw [a2 j hj]; exact rest_new hj
        · rw [a3 _ (by omega), hc i' j hi' hj, rest_past (by omega) hj, rest_past (by rw [List.length_append]; simp; omega) hj]
      · by_cases h : i' < q.length
        · rw [if_pos h]
          exact hK.bytes hr (hr.data i' x (by rw [List.getElem?_append_left h] at hx; exact hx))
        · rw [if_neg h]
          have hi3 : i' = q.length := by
            have := (List.getElem?_eq_some_iff.1 hx).1
            simp at this; omega
          subst hi3
          rw [List.getElem?_append_right (Nat.le_refl _), Nat.sub_self] at hx
          simp at hx
          subst hx
          exact hK.bytes hr hV
    · have hrun := run_append_grow (P := Try.prog) w 22 ty 28 i _ Try.underlying22 hi h0 ⟨g, 0, none⟩ q.length cap (flat q.length 3 (pkCells q V)) (by rw [flat_length, h1]) (row_flat hr) ⟨b, 0, none⟩ 1 1 _ hl hnews (by omega) (by simp; omega) (by rw [h2]; exact growslice_fits (by omega) (by omega))
      rw [hz] at hrun
      have hcg := grownCap_ge w (q.length + 1) cap 28
      have hcl := grownCap_le_maxLen w (q.length + 1) cap 28 (by simp [maxLen]; omega)
      generalize grownCap w (q.length + 1) cap 28 = cp at hrun hcg hcl
      have key := rest_grow (w := w) (q := q) (p := p) (V := V) (Vd := Vd) (k := cp - (q.length + 1)) hbase hr.data hV (by omega)
      rw [show q.length + 1 + (cp - (q.length + 1)) = cp by omega] at key
      exact ⟨_, _, _, _, hrun, key, Kept.of (((Below.refl _ _).drew).alloc (Nat.le_refl _) _) hbase⟩
/-- It is read as any list. -/
theorem RestAt.pks {w : World} {base : Nat} {v : Value} {q : List Pk} (h : RestAt w base v q) : PksAt w w.heap.size v q := by
  rcases h with ⟨rfl, rfl⟩ | ⟨g, cap, V, rfl, _, hcm, hr⟩
  · exact pksAt_nil _ _
  · refine ⟨.inr ⟨_, _, _, rfl, hr.le, hcm⟩, V, ⟨_, _, rfl, by have := hr.le; omega, fun i hi => ⟨g, 0, rfl, ?_, fun j hj => ?_⟩⟩, hr.data⟩
    · obtain ⟨cur, hg, _⟩ := hr.cells
      exact (Array.getElem?_eq_some_iff.1 hg).1
    · have := hr.cell (i := i) (j := j) (by have := hr.le; omega) hj
      rw [restCells, if_pos hi] at this
      rw [Nat.zero_add]
      exact this
theorem RestAt.later {w w' : World} {base : Nat} {v : Value} {q : List Pk} (h : RestAt w base v q) (hb : Below w.heap.size w w') : RestAt w' base v q := by
  rcases h with h | ⟨g, cap, V, hv, hg, hcm, hr⟩
  · exact .inl h
  · obtain ⟨cur, h1, h2, h3⟩ := hr.cells
    exact .inr ⟨g, cap, V, hv, hg, hcm, ⟨hr.le, ⟨cur, (hb.block g (Array.getElem?_eq_some_iff.1 h1).1).trans h1, h2, h3⟩, fun i p hp => (hr.data i p hp).later hb⟩⟩
/-- A store into a block below. -/
theorem RestAt.set {w : World} {base : Nat} {v : Value} {q : List Pk} (h : RestAt w base v q) {x : Nat} {A1 A2 : Option Addr} {k1 c1 k2 c2 : Nat} (hx : Box w x [.slice A1 k1 c1, .slice A2 k2 c2]) (hlt : x < base) (j : Nat) (u : Value) : RestAt (w.setCell ⟨x, j, none⟩ u) base v q := by
  rcases h with h | ⟨g, cap, V, hv, hg, hcm, hr⟩
  · exact .inl h
  · obtain ⟨cur, h1, h2, h3⟩ := hr.cells
    exact .inr ⟨g, cap, V, hv, hg, hcm, ⟨hr.le, ⟨cur, (Below.heap_setCell w ⟨x, j, none⟩ u g (by simp; omega)).trans h1, h2, h3⟩, fun i p hp => ((hr.data i p hp).set_net hx j u).more (by simp)⟩⟩

end Go.Proofs.Ytndjpaiakodciaa
