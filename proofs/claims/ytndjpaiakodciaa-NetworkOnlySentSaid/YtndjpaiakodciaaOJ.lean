/-
  What happens, as plain data; nets that are kept where a zero packet's block is written. No condition.
-/
import Derived.Test.YtndjpaiakodciaaOF
import Derived.Test.YtndjpaiakodciaaOH
namespace Go.Proofs.Ytndjpaiakodciaa
open Go.RowKit

/-- What is known of links and of the packets that were sent. -/
structure Inv (n : Net) (sent : List Pk) (cuts : Nat) : Prop where
  ok : n.okB = true
  known : ∀ p ∈ n.queue, p ∈ sent
  cut : cuts = 0 → n.apart = []
theorem ask_range {n : Net} {i : Int} (h : askT n i = 0) : n.okB = true ∧ ∃ k : Nat, i = (k : Int) ∧ k < n.queue.length := by
  unfold askT at h
  split at h
  · rename_i hok
    split at h
    · rename_i hr
      exact ⟨hok, i.toNat, by omega, by omega⟩
    · cases h
  · cases h
theorem without_sub {n : Net} {k : Nat} {p : Pk} (h : p ∈ (n.without k).queue) : p ∈ n.queue := by
  simp only [Net.without, List.mem_append] at h
  rcases h with h | h
  · exact List.mem_of_mem_take h
  · exact List.mem_of_mem_drop h
theorem pk_mem {n : Net} {k : Nat} (h : k < n.queue.length) : n.pk (k : Int) ∈ n.queue := by rw [Net.pk_at h]; exact List.getElem_mem h
/-- A thing that fails leaves nothing. -/
theorem send_err {n : Net} {p : Pk} {m : Net} {er : Int} (h : sendT n p = (m, er)) (he : er ≠ 0) : m = Net.zero := by
  unfold sendT at h
  split at h
  · split at h
    · injection h with h1 h2; exact h1.symm
    · injection h with h1 h2; exact absurd h2.symm he
  · injection h with h1 h2; exact h1.symm
theorem cut_err {n : Net} {a b : Int} {on : Bool} {m : Net} {er : Int} (h : cutT n a b on = (m, er)) (he : er ≠ 0) : m = Net.zero := by
  unfold cutT at h
  split at h
  · split at h
    · injection h with h1 h2; exact absurd h2.symm he
    · injection h with h1 h2; exact h1.symm
  · injection h with h1 h2; exact h1.symm
theorem send_good {n : Net} {p : Pk} {m : Net} (h : sendT n p = (m, 0)) : m = ⟨n.queue ++ [p], n.apart⟩ ∧ m.okB = true := by
  unfold sendT at h
  split at h
  · rename_i hok
    split at h
    · injection h with h1 h2; cases h2
    · rename_i hl
      injection h with h1 h2
      subst h1
      exact ⟨rfl, sent_ok hok.1 hok.2 (by have := (okB_parts hok.1).1; omega)⟩
  · injection h with h1 h2; cases h2
theorem cut_good {n : Net} {a b : Int} {on : Bool} {m : Net} (h : cutT n a b on = (m, 0)) : m.okB = true ∧ m.queue = n.queue ∧ (on = false → n.apart = [] → m.apart = []) := by
  unfold cutT at h
  split at h
  · rename_i hok
    split at h
    · injection h with h1 h2
      subst h1
      refine ⟨cut_ok hok _, rfl, fun h3 h4 => ?_⟩
      show allLinks.filter _ = []
      rw [List.filter_eq_nil_iff]
      intro x hx
      subst h3
      rw [h4, keptB]
      split
      · decide
      · simp
    · injection h with h1 h2; cases h2
  · injection h with h1 h2; cases h2
/-- All that the law asks of what happens. -/
theorem happ_err {n : Net} {kd ta sa sb dt : Int} {m : Net} {p : Pk} {er : Int} (h : happT n kd ta sa sb dt = (m, p, er)) (he : er ≠ 0) : m = Net.zero := by
  unfold happT at h
  dsimp only at h
  generalize (if 0 < n.queue.length then ta % (n.queue.length : Int) else 0) = i at h
  have hs : ∀ {x : Net × Int}, x.2 = er → (∀ m er, x = (m, er) → er ≠ 0 → m = Net.zero) → x.1 = m → m = Net.zero := fun {x} h2 hx h1 => by
    rw [← h1]; exact hx x.1 x.2 rfl (by rw [h2]; exact he)
  repeat' split at h
  · injection h with h1 h2; injection h2 with h2 h3; exact hs h3 (fun _ _ a b => send_err a b) h1
  · injection h with h1 h2; injection h2 with h2 h3
    unfold deliverT at h1 h3
    split at h1
    · rename_i hq; rw [if_pos hq] at h3; exact absurd h3.symm he
    · exact h1.symm
  · injection h with h1 h2; injection h2 with h2 h3
    unfold loseT at h1 h3
    split at h1
    · rename_i hq; rw [if_pos hq] at h3; exact absurd h3.symm he
    · exact h1.symm
  · injection h with h1 h2; injection h2 with h2 h3
    unfold repeatT at h1 h3
    split at h1
    · rename_i hq; rw [if_pos hq] at h3; exact hs h3 (fun _ _ a b => send_err a b) h1
    · exact h1.symm
  · injection h with h1 h2; injection h2 with h2 h3; exact hs h3 (fun _ _ a b => cut_err a b) h1
  · injection h with h1 h2; injection h2 with h2 h3; exact hs h3 (fun _ _ a b => cut_err a b) h1
/-- One step that succeeds. -/
theorem happ_step {n : Net} {kd ta sa sb dt : Int} {m : Net} {p : Pk} {sent : List Pk} {cuts : Nat} (h : happT n kd ta sa sb dt = (m, p, 0)) (hI : Inv n sent cuts) :
    m.okB = true ∧ (kd % 6 = 0 → ∃ p0, m.queue = n.queue ++ [p0] ∧ Inv m (sent ++ [p0]) cuts) ∧ (kd % 6 = 1 → ((p = Pk.zero ∧ 0 < cuts) ∨ p ∈ sent)) ∧ (kd % 6 = 4 → Inv m sent (cuts + 1)) ∧ (kd % 6 ≠ 0 → kd % 6 ≠ 4 → Inv m sent cuts) := by
  unfold happT at h
  dsimp only at h
  generalize (if 0 < n.queue.length then ta % (n.queue.length : Int) else 0) = i at h
  rcases (show kd % 6 = 0 ∨ kd % 6 = 1 ∨ kd % 6 = 2 ∨ kd % 6 = 3 ∨ kd % 6 = 4 ∨ kd % 6 = 5 by omega) with hr | hr | hr | hr | hr | hr
  all_goals simp only [hr] at h ⊢
  · rw [if_pos trivial] at h
    injection h with h1 h2; injection h2 with h2 h3
    obtain ⟨e, hok⟩ := send_good (Prod.ext h1 h3)
    refine ⟨hok, fun _ => ⟨_, by rw [e], ⟨hok, ?_, ?_⟩⟩, by omega, by omega, by omega⟩
    · rw [e]; intro x hx
      rcases List.mem_append.1 hx with hx | hx
      · exact List.mem_append_left _ (hI.known x hx)
      · exact List.mem_append_right _ hx
    · rw [e]; exact hI.cut
  · rw [if_neg (by decide), if_pos trivial] at h
    injection h with h1 h2; injection h2 with h2 h3
    unfold deliverT at h1 h2 h3
    split at h1
    · rename_i hq
      obtain ⟨hok, k, rfl, hk⟩ := ask_range hq
      rw [if_pos hq] at h2
      simp only [Int.toNat_natCast] at h1
      subst h1
      refine ⟨without_ok hok k, by omega, fun _ => ?_, by omega, fun _ _ => ⟨without_ok hok k, fun x hx => hI.known x (without_sub hx), hI.cut⟩⟩
      by_cases hc : cutB n.apart (n.pk k).src (n.pk k).dst = true
      · left
        rw [if_pos hc] at h2
        refine ⟨h2.symm, ?_⟩
        rcases Nat.eq_zero_or_pos cuts with h0 | h0
        · rw [hI.cut h0] at hc; cases hc
        · exact h0
      · right
        rw [if_neg hc] at h2
        subst h2
        exact hI.known _ (pk_mem hk)
    · rename_i hq; rw [if_neg hq] at h3; exact absurd h3 hq
  · rw [if_neg (by decide), if_neg (by decide), if_pos trivial] at h
    injection h with h1 h2; injection h2 with h2 h3
    unfold loseT at h1 h3
    split at h1
    · rename_i hq
      obtain ⟨hok, k, rfl, hk⟩ := ask_range hq
      simp only [Int.toNat_natCast] at h1
      subst h1
      exact ⟨without_ok hok k, by omega, by omega, by omega, fun _ _ => ⟨without_ok hok k, fun x hx => hI.known x (without_sub hx), hI.cut⟩⟩
    · rename_i hq; rw [if_neg hq] at h3; exact absurd h3 hq
  · rw [if_neg (by decide), if_neg (by decide), if_neg (by decide), if_pos trivial] at h
    injection h with h1 h2; injection h2 with h2 h3
    unfold repeatT at h1 h3
    split at h1
    · rename_i hq
      rw [if_pos hq] at h3
      obtain ⟨hok, k, rfl, hk⟩ := ask_range hq
      obtain ⟨e, hok2⟩ := send_good (Prod.ext h1 h3)
      refine ⟨hok2, by omega, by omega, by omega, fun _ _ => ⟨hok2, ?_, ?_⟩⟩
      · rw [e]; intro x hx
        rcases List.mem_append.1 hx with hx | hx
        · exact hI.known x hx
        · rw [List.mem_singleton.1 hx]; exact hI.known _ (pk_mem hk)
      · rw [e]; exact hI.cut
    · rename_i hq; rw [if_neg hq] at h3; exact absurd h3 hq
  · rw [if_neg (by decide), if_neg (by decide), if_neg (by decide), if_neg (by decide), if_pos trivial] at h
    injection h with h1 h2; injection h2 with h2 h3
    obtain ⟨hok, e, _⟩ := cut_good (Prod.ext h1 h3)
    exact ⟨hok, by omega, by omega, fun _ => ⟨hok, by rw [e]; exact hI.known, fun h => by omega⟩, by omega⟩
  · rw [if_neg (by decide), if_neg (by decide), if_neg (by decide), if_neg (by decide), if_neg (by decide)] at h
    injection h with h1 h2; injection h2 with h2 h3
    obtain ⟨hok, e, e2⟩ := cut_good (Prod.ext h1 h3)
    exact ⟨hok, by omega, by omega, by omega, fun _ _ => ⟨hok, by rw [e]; exact hI.known, fun h => e2 rfl (hI.cut h)⟩⟩

/-- What avoids a block lies as it lay. -/
theorem Sl.keep_at {w w' : World} {B size n x : Nat} {g : Nat → Nat → Value} {v : Value} (h : Sl w B size n g v) (hk : ∀ b, b ≠ x → w'.heap[b]? = w.heap[b]?) (hav : ∀ b off i, i < n → (∀ j, j < size → w.cell? ⟨b, off + (i * size + j), none⟩ = some (g i j)) → b ≠ x) : Sl w' B size n g v := by
  obtain ⟨A, c, hv, hm, h1⟩ := h
  refine ⟨A, c, hv, hm, fun i hi => ?_⟩
  obtain ⟨b, off, ha, hb, h3⟩ := h1 i hi
  exact ⟨b, off, ha, hb, fun j hj => by rw [World.cell?_of_block (w := w) (hk b (hav b off i hi h3))]; exact h3 j hj⟩
theorem zero_box {w : World} {x o : Nat} {u : Value} (hx : Box w x [.int .i64 0, .int .i64 0, .slice none 0 0]) (h : w.cell? ⟨x, o, none⟩ = some u) : (o = 2 ∧ u = .slice none 0 0) ∨ (o < 2 ∧ u = .int .i64 0) := by
  rw [hx.cell] at h
  match o, h with
  | 0, h => simp at h; exact .inr ⟨by omega, h.symm⟩
  | 1, h => simp at h; exact .inr ⟨by omega, h.symm⟩
  | 2, h => simp at h; exact .inl ⟨rfl, h.symm⟩
  | o + 3, h => simp at h
theorem BytesAt.keep_zero {w w' : World} {B x : Nat} {v : Value} {l : List UInt8} (h : BytesAt w B v l) (hk : ∀ b, b ≠ x → w'.heap[b]? = w.heap[b]?) (hx : Box w x [.int .i64 0, .int .i64 0, .slice none 0 0]) : BytesAt w' B v l :=
  Sl.keep_at h hk fun b off i _ h3 => by
    rintro rfl
    rcases zero_box hx (h3 0 (by omega)) with ⟨_, e⟩ | ⟨_, e⟩ <;> cases e
theorem NetAt.keep_zero {w w' : World} {B x : Nat} {Vq Va : Value} {n : Net} (hok : n.okB = true) (h : NetAt w B Vq Va n) (hk : ∀ b, b ≠ x → w'.heap[b]? = w.heap[b]?) (hx : Box w x [.int .i64 0, .int .i64 0, .slice none 0 0]) : NetAt w' B Vq Va n := by
  obtain ⟨_, hq, hl⟩ := okB_parts hok
  obtain ⟨f, V, s, b⟩ := h.queue
  refine ⟨⟨f, V, s.keep_at hk fun b off i hi h3 => ?_, fun i p hp => (b i p hp).keep_zero hk hx⟩, ⟨h.apart.1, h.apart.2.keep_at hk fun b off i hi h3 => ?_⟩⟩
  · rintro rfl
    have e : n.queue.getD i ⟨0, 0, []⟩ = n.queue[i] := by rw [List.getD_eq_getElem?_getD, List.getElem?_eq_getElem hi]; rfl
    have c0 := zero_box hx (h3 0 (by decide))
    have c1 := zero_box hx (h3 1 (by decide))
    simp only [pkCells, e] at c0 c1
    obtain ⟨g1, g2, _⟩ := link_ok (link_of_ok (List.all_eq_true.1 hq _ (List.getElem_mem hi)))
    rcases c0 with ⟨_, e0⟩ | ⟨_, e0⟩
    · simp at e0
    · rcases c1 with ⟨_, e1⟩ | ⟨_, e1⟩
      · simp at e1
      · simp at e0 e1
        omega
  · rintro rfl
    have e : n.apart.getD i (0, 0) = n.apart[i] := by rw [List.getD_eq_getElem?_getD, List.getElem?_eq_getElem hi]; rfl
    have c0 := zero_box hx (h3 0 (by decide))
    have c1 := zero_box hx (h3 1 (by decide))
    simp only [lkCells, e] at c0 c1
    have hok2 := List.all_eq_true.1 hl i (List.mem_range.2 hi)
    rw [okAt, e, Bool.and_eq_true] at hok2
    obtain ⟨g1, g2, _⟩ := link_ok hok2.1
    rcases c0 with ⟨_, e0⟩ | ⟨_, e0⟩
    · simp at e0
    · rcases c1 with ⟨_, e1⟩ | ⟨_, e1⟩
      · simp at e1
      · simp at e0 e1
        omega

end Go.Proofs.Ytndjpaiakodciaa
