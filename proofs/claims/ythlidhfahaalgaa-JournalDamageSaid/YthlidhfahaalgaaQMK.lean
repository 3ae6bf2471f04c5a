/- JournalDamage: a damaged byte, and the places where records end: plain facts; own rows of integers. No condition. -/
import Derived.Test.YthlidhfahaalgaaQMG
import Derived.Maps.AppendAt
import Derived.Lib.SmallJoins
import Derived.Laws.Bits64
set_option linter.unusedVariables false
set_option linter.unusedSimpArgs false
namespace Go.Proofs.Ythlidhfahaalgaa
open Go.ChangeShapes Go.WideShapes Go.ChangeAt Go.RowKit Go.Joins Go.Deep

theorem recsW_good {g : Nat} (hg : 0 < g) (hg2 : g < 4294967296) : ∀ {N : List Bs} {a j : Nat} {x : Wr}, a + usedT N ≤ 65536 → (recsW g a N)[j]? = some x → goodT x.data (a + j) = true := by
  intro N
  induction N with
  | nil => intro a j x _ h; cases h
  | cons b N ih =>
    intro a j x ha h
    rw [usedT_cons] at ha
    rw [recsW, List.getElem?_append, recW_length] at h
    split at h
    · rename_i hj
      rw [recW_get hj] at h
      cases h
      exact goodT_pieceE hg hg2 (by omega) hj
    · have := ih (a := a + secT b.length) (by omega) h
      rwa [show a + secT b.length + (j - secT b.length) = a + j by omega] at this
abbrev S40 : List Bs := List.replicate 40 zeros
theorem new40 : GoodS S40 40 [] 0 := new_good (by decide) (by decide)
theorem gen40 : genM S40 = 0 := Nat.le_zero.1 new40.gen
theorem sync_fresh {N : List Bs} {J : Jn} (hJ : Jnd J [] N 40) : ∃ S', GoodS S' 40 N 1 ∧ syncJ J ⟨S40, [], -1, false⟩ = (⟨N, 40, (N.length : Nat)⟩, ⟨S', [], -1, false⟩, 0) ∧ (N ≠ [] → S' = perf S40 (recsW 1 0 N)) := by
  obtain ⟨ok, rfl⟩ := hJ
  rcases sync_good new40 (by decide) (l := -1) (by omega) ok with ⟨S', l', h1, _, _, h2, _, h3, h4⟩ | ⟨h0, _⟩
  · obtain rfl := h2 rfl
    rw [gen40] at h3
    exact ⟨S', h1, h4, h3⟩
  · omega
theorem len_used (N : List Bs) : N.length ≤ usedT N := by
  induction N with
  | nil => simp
  | cons b N ih => rw [usedT_cons, List.length_cons]; have := secT_pos b.length; omega
theorem Jnd.used {J : Jn} {N : List Bs} {n : Nat} (h : Jnd J [] N n) : usedT N ≤ n := by
  obtain ⟨ok, rfl⟩ := h
  obtain ⟨_, _, _, _, g5⟩ := (Jn.okB_iff _).1 ok
  have g5 : (usedT ([] ++ N) : Int) ≤ (n : Int) := g5
  rw [List.nil_append] at g5
  omega
theorem damaged {N S' : List Bs} {k i : Nat} {c : UInt8} (hS : S' = perf S40 (recsW 1 0 N)) (hG : GoodS S' 40 N 1) (hu : usedT N ≤ 40) (hk : k < usedT N) {s : Bs} (hs : S'[k]? = some s) (hi : i < 128) (hl : s.length = 128) (hc : c ≠ s[i]) :
    ∃ m, m < N.length ∧ usedT (N.take m) ≤ k ∧ k < usedT (N.take (m + 1)) ∧ GoodS (S'.set k (s.set i c)) 40 (N.take m) (genM (S'.set k (s.set i c))) := by
  have hlen := recsW_length 1 0 N
  have h40 : S40.length = 40 := by simp
  obtain ⟨x, hx⟩ : ∃ x, (recsW 1 0 N)[k]? = some x := ⟨_, List.getElem?_eq_getElem (by rw [hlen]; exact hk)⟩
  have hw : Wrote S' 1 0 N (usedT N) := by
    have := wrote_perf (S := S40) (g := 1) (a := 0) (k := usedT N) (N := N) (by rw [h40]; omega)
    rwa [List.take_of_length_le (by rw [hlen]; exact Nat.le_refl _), ← hS] at this
  have hxs := hw k x hk hx
  rw [Nat.zero_add, hs] at hxs
  obtain rfl : s = x.data := Option.some.inj hxs
  have hgood := recsW_good (g := 1) (by decide) (by decide) (a := 0) (by omega) hx
  rw [Nat.zero_add] at hgood
  have hbad := damage_bad (c := c) hl hi hc hgood
  have hkS : k < S'.length := by rw [hG.len]; omega
  obtain ⟨m, h1, h2, h3, h4⟩ := records_torn (S := S40) (S' := S'.set k (x.data.set i c)) (R := []) (N := N) (g := 1) (k := k) (t := x.data.set i c) new40.rows new40.recs (by decide) (by decide) (fun s hs => by have := (genM_mem hs).1; rw [gen40] at this; omega) (by simp [usedT] at hu ⊢; omega) (fun i hi => by simp [usedT] at hi)
    (fun j y hj hy => by
      show (S'.set k _)[0 + j]? = _
      rw [List.getElem?_set_ne (by omega)]
      exact hw j y (by omega) hy) hk (by show (S'.set k _)[0 + k]? = _; rw [Nat.zero_add, List.getElem?_set_self hkS]) (by show goodT _ (0 + k) = false; rw [Nat.zero_add]; exact hbad)
  refine ⟨m, h1, h2, h3, hG.pos, hG.le, by rw [List.length_set, hG.len], fun s hs => ?_, by rw [h4, List.nil_append], Nat.le_refl _⟩
  rcases List.mem_or_eq_of_mem_set hs with hs | rfl
  · exact hG.rows s hs
  · rw [List.length_set, hl]
theorem usedT_mono {N : List Bs} {i j : Nat} (h : i ≤ j) : usedT (N.take i) ≤ usedT (N.take j) := by
  have e : N.take i = (N.take j).take i := by rw [List.take_take, Nat.min_eq_left h]
  rw [e]
  have := usedT_append ((N.take j).take i) ((N.take j).drop i)
  rw [List.take_append_drop] at this
  omega
/-- A sector is written and synced. -/
theorem put_back {S R : List Bs} {n g k : Nat} {t : Bs} (h : GoodS S n R g) (hk : k < n) (ht : t.length = 128) : writeT ⟨S, [], -1, false⟩ (k : Int) t = (⟨S, [⟨(k : Int), t⟩], -1, false⟩, 0) ∧ syncT ⟨S, [⟨(k : Int), t⟩], -1, false⟩ = (⟨S.set k t, [], -1, false⟩, 0) := by
  have hok := disk_ok (s := false) (l := -1) h (by omega)
  have hb : (⟨S, [], -1, false⟩ : Dk).hasB (k : Int) = true := hasB_of (by omega) (by show (k : Int) < (S.length : Int); rw [h.len]; omega)
  constructor
  · rw [write_eq (runs_of hok rfl) hb (by omega) (by simp), Dk.put, padTo_full ht]
    rfl
  · have hok2 : (⟨S, [⟨(k : Int), t⟩], -1, false⟩ : Dk).okB = true := by
      have := put_ok hok hb (b := t) (by omega) (by simp)
      rwa [Dk.put, padTo_full ht] at this
    rw [sync_go (runs_of hok2 rfl) rfl, Dk.synced]
    show ((⟨perf S [⟨(k : Int), t⟩], [], -1, false⟩ : Dk), (0 : Int)) = _
    have e : perf S [⟨(k : Int), t⟩] = S.set k t := by
      show S.set ((k : Int)).toNat t = _
      rw [Int.toNat_natCast]
    rw [e]
/-- Where the records end. -/
def endsT (N : List Bs) : List Int := (List.range N.length).map fun i => (usedT (N.take (i + 1)) : Int)
theorem endsT_length (N : List Bs) : (endsT N).length = N.length := by simp [endsT]
theorem endsT_get {N : List Bs} {i : Nat} (hi : i < N.length) : (endsT N)[i]? = some (usedT (N.take (i + 1)) : Int) := by simp [endsT, hi]
theorem endsT_snoc (N : List Bs) (b : Bs) : endsT (N ++ [b]) = endsT N ++ [((usedT N + secT b.length : Nat) : Int)] := by
  refine List.ext_getElem? fun i => ?_
  rcases Nat.lt_trichotomy i N.length with hi | hi | hi
  · rw [List.getElem?_append_left (by rw [endsT_length]; exact hi), endsT_get hi, endsT_get (by simp; omega), List.take_append_of_le_length (by omega)]
  · subst hi
    rw [List.getElem?_append_right (by rw [endsT_length]; exact Nat.le_refl _), endsT_length, Nat.sub_self, endsT_get (by simp), List.take_of_length_le (by simp), usedT_append, usedT_cons]
    rfl
  · rw [List.getElem?_eq_none (by rw [endsT_length]; simp; omega), List.getElem?_eq_none (by simp [endsT_length]; omega)]
/-- A row of integers that the call owns. -/
def isV (l : List Int) : List Value := l.map fun x => .int .i64 x
def OwnIs (w : World) (base : Nat) (V : Value) (l : List Int) : Prop := w.ownsRow base 3 1 V l.length (isV l)
theorem ownIs_nil (w : World) (base : Nat) : OwnIs w base (.slice none 0 0) [] := ⟨by simp [isV], .inl ⟨rfl, rfl⟩⟩
theorem OwnIs.later {w w' : World} {base : Nat} {v : Value} {l : List Int} (h : OwnIs w base v l) (hb : Below w.heap.size w w') : OwnIs w' base v l := World.ownsRow.kept h (grownN hb) (by rcases v.ownBlock with _ | _ <;> simp)
theorem elem_int : ∃ i, Elem 47 3 i (.int .i64 0) 1 8 := by
  obtain ⟨i, h1, h2, h3, h4⟩ := info_parts (show (Try.prog.info? 3).map (fun i => (i.zero, i.size, i.bytes)) = some (some (.int .i64 0), 1, 8) by kernel_rfl)
  exact ⟨i, Try.underlying47, h1, h2, h3, h4, by decide, by decide⟩
theorem isV_flat (l : List Int) : flat l.length 1 (fun i _ => .int .i64 (l.getD i 0)) = isV l := by
  rw [flat_one, isV]
  refine List.ext_getElem (by simp) fun i h1 h2 => ?_
  simp only [List.length_map, List.length_range] at h1
  simp [h1]
theorem isV_append (a b : List Int) : isV (a ++ b) = isV a ++ isV b := List.map_append
/-- One more integer. -/
theorem run_appI {w : World} {base g : Nat} {V : Value} {l : List Int} (x : Int) (ty : TypeId) (hg : g = w.heap.size) (ho : OwnIs w base V l) (hbase : base ≤ w.heap.size) (hl : l.length ≤ 1048576) :
    ∃ g' c' w', (appF #[47, 47] ty #[V, .slice (some ⟨g, 0, none⟩) 1 1]).run Try.prog (w.alloc (.cells #[.int .i64 x] 3)) = .ok (.slice (some ⟨g', 0, none⟩) (l.length + 1) c') w' ∧ OwnIs w' base (.slice (some ⟨g', 0, none⟩) (l.length + 1) c') (l ++ [x]) ∧ (w.alloc (.cells #[.int .i64 x] 3)).grownBy w' V.ownBlock ∧ (V.ownBlock = some g' ∨ (w.alloc (.cells #[.int .i64 x] 3)).heap.size ≤ g') ∧ base ≤ g' ∧ g' < w'.heap.size := by
  subst hg
  obtain ⟨i, E⟩ := elem_int
  have hst := (Below.refl w.heap.size w).alloc (Nat.le_refl _) (.cells #[.int .i64 x] 3)
  have ho2 : OwnIs (w.alloc (.cells #[.int .i64 x] 3)) base V l := ho.later hst
  obtain ⟨v', w', hr, h1, h2, _, hlies⟩ := run_append_own_at (P := Try.prog) (w.alloc (.cells #[.int .i64 x] 3)) base 47 ty 3 i _ 1 8 E.ht E.hi E.hz E.hsize E.hby E.hzs E.hsz _ _ _ ho2 ⟨w.heap.size, 0, none⟩ 1 1 [.int .i64 x] rfl
    (fun j u hu => by
      rw [add_at, Nat.zero_add, (Box.new w [.int .i64 x] 3).cell j]
      exact hu)
    (fun u hu => by
      simp only [List.mem_cons, List.not_mem_nil, or_false] at hu
      subst hu
      rfl) (by simp only [maxLen]; omega) (by omega) (by simp; omega)
  have hls := World.ownsRow.lt h1
  have h5 := h1.2
  rcases h5 with ⟨_, h6⟩ | ⟨g', cap, cur, hv, hrest⟩
  · omega
  · subst hv
    refine ⟨g', cap, w', hr, ?_, h2, ?_, (hls g' rfl).1, (hls g' rfl).2⟩
    · rw [OwnIs, List.length_append, isV_append]
      exact h1
    · rcases hlies with h | h
      · exact .inl h.symm
      · have e : g' = (w.alloc (.cells #[.int .i64 x] 3)).heap.size := by
          rw [Value.ownBlock] at h
          exact Option.some.inj h
        exact .inr (by rw [e]; simp)
theorem grown_cell (w : World) (g : Nat) (o : Nat) (u : Value) : w.grownBy (w.setCell ⟨g, o, none⟩ u) (some g) := ⟨rfl, rfl, rfl, by simp, fun i _ h => Below.heap_setCell w ⟨g, o, none⟩ u i (fun e => h (by rw [e]))⟩
theorem kk_of (sec : Int) {u : Nat} (h1 : 1 ≤ u) (h2 : u ≤ 128) : ∃ kk : Nat, (IntKind.u64.wrap sec).tmod (u : Int) = (kk : Int) ∧ kk < u := by
  have h0 : 0 ≤ IntKind.u64.wrap sec := by
    simp only [IntKind.wrap, IntKind.bits, IntKind.signed]
    simp
    omega
  obtain ⟨z, hz⟩ : ∃ z : Nat, IntKind.u64.wrap sec = (z : Int) := ⟨_, (Int.toNat_of_nonneg h0).symm⟩
  rw [hz]
  exact ⟨z % u, rfl, Nat.mod_lt _ h1⟩
theorem xor_u8 (x : UInt8) {b : Int} (hb : 0 ≤ b ∧ b ≤ 255) (hne : b ≠ 0) : ∃ y : UInt8, bits .xor .u8 (x.toNat : Int) b = (y.toNat : Int) ∧ y ≠ x := by
  obtain ⟨c, rfl⟩ : ∃ c : Nat, b = (c : Int) := ⟨b.toNat, by omega⟩
  have hx := x.toNat_lt
  have hlt : x.toNat ^^^ c < 2 ^ 8 := Nat.xor_lt_two_pow (by omega) (by omega)
  refine ⟨UInt8.ofNat (x.toNat ^^^ c), ?_, fun e => ?_⟩
  · have h1 : (BitVec.ofInt 8 ((x.toNat : Nat) : Int)).toNat = x.toNat := by simp
    have h2 : (BitVec.ofInt 8 (c : Int)).toNat = c := by simp; omega
    unfold bits
    show IntKind.u8.wrap (((BitVec.ofInt 8 ((x.toNat : Nat) : Int)) ^^^ (BitVec.ofInt 8 (c : Int))).toNat : Int) = _
    rw [BitVec.toNat_xor, h1, h2, UInt8.toNat_ofNat', Nat.mod_eq_of_lt hlt]
    simp only [IntKind.wrap, IntKind.bits, IntKind.signed]
    simp
    omega
  · have := congrArg UInt8.toNat e
    rw [UInt8.toNat_ofNat', Nat.mod_eq_of_lt hlt] at this
    have h3 := congrArg (fun z => x.toNat ^^^ z) this
    simp only [Nat.xor_self, ← Nat.xor_assoc, Nat.zero_xor] at h3
    omega
/-- A copy of a sector. -/
theorem run_dup {w : World} {g n c : Nat} {A : Option Addr} {S : Nat → Prop} {s : Bs} (ty : TypeId) (hg : g = w.heap.size) (h : BsAt w S (.slice A n c) s) (hn : s.length = n) (h0 : 0 < n) (hn2 : n ≤ 128) :
    ∃ g' c' w', (appF #[35, 35] ty #[.slice (some ⟨g, 0, none⟩) 0 0, .slice A n c]).run Try.prog (w.alloc (.cells #[] 5)) = .ok (.slice (some ⟨g', 0, none⟩) n c') w' ∧ OwnBs w' w.heap.size (.slice (some ⟨g', 0, none⟩) n c') s ∧ Below w.heap.size w w' := by
  subst hg
  have hst := (Below.refl w.heap.size w).alloc (Nat.le_refl _) (.cells #[] 5)
  have ho : OwnBs (w.alloc (.cells #[] 5)) w.heap.size (.slice (some ⟨w.heap.size, 0, none⟩) 0 0) [] := by
    refine ⟨rfl, .inr ⟨w.heap.size, 0, #[], rfl, Nat.le_refl _, ?_, Nat.le_refl _, Nat.zero_le _, rfl, rfl⟩⟩
    show (w.heap.push _)[w.heap.size]? = _
    simp
  obtain ⟨V', w', hr, h1, h2⟩ := run_appB ty ho (h.keep (Keeps.of hst)) (by simp) (by rw [hn]; simp; omega)
  rw [List.nil_append] at h1
  have hb := hst.trans (own_below ho (by simp) h2)
  obtain ⟨g', c', rfl⟩ := ownsRow_form h1 (by omega)
  rw [hn] at hr h1
  exact ⟨g', c', w', hr, h1, hb⟩
theorem ownB_set {w : World} {base g n c i : Nat} {s : Bs} (h : OwnBs w base (.slice (some ⟨g, 0, none⟩) n c) s) (hn : s.length = n) (x : UInt8) : OwnBs (w.setCell ⟨g, i, none⟩ (.int .u8 (x.toNat : Int))) base (.slice (some ⟨g, 0, none⟩) n c) (s.set i x) := by
  subst hn
  have := own_set h (i := i) (.int .u8 (x.toNat : Int))
  unfold OwnBs
  rw [List.length_set, byV, List.map_set]
  exact this
theorem ownB_cell {w : World} {base g n c i : Nat} {s : Bs} (h : OwnBs w base (.slice (some ⟨g, 0, none⟩) n c) s) (hn : s.length = n) (hi : i < s.length) : base ≤ g ∧ g < w.heap.size ∧ w.cell? ⟨g, i, none⟩ = some (.int .u8 ((s[i]).toNat : Int)) ∧ w.frozen? ⟨g, i, none⟩ = false := by
  subst hn
  obtain ⟨h1, h2, h3, h4⟩ := own_cell h
  refine ⟨h1, h2, ?_, h4 i⟩
  rw [h3 i hi, byV, List.getElem?_map, List.getElem?_eq_getElem hi]
  rfl
theorem ownI_set {w : World} {base a : Nat} {V : Value} {l : List Int} (hne : V.ownBlock ≠ some a) (h : Hid (OwnIs w base V l)) (o : Nat) (u : Value) : Hid (OwnIs (w.setCell ⟨a, o, none⟩ u) base V l) := Lib.hid (World.ownsRow.kept h.out (grown_cell w a o u) (by
  rcases hv : V.ownBlock with _ | k
  · exact .inl rfl
  · exact .inr fun e => hne (by rw [hv, e])))
theorem ownI_later {w w' : World} {base : Nat} {V : Value} {l : List Int} (h : Hid (OwnIs w base V l)) (hb : Below w.heap.size w w') : Hid (OwnIs w' base V l) := Lib.hid (h.out.later hb)
theorem ownI_more {w : World} {base a : Nat} {V : Value} {l : List Int} (_ : w.heap.size ≤ a) (h : Hid (OwnIs w base V l)) : Hid (OwnIs w base V l) := h
theorem hbs_later {w w' : World} {B : Nat} (h : Hid (B ≤ w.heap.size)) (hb : Below w.heap.size w w') : Hid (B ≤ w'.heap.size) := Lib.hid (Nat.le_trans h.out hb.size)
theorem hbs_more {w : World} {B a : Nat} (_ : w.heap.size ≤ a) (h : Hid (B ≤ w.heap.size)) : Hid (B ≤ w.heap.size) := h
theorem hbs_set {w : World} {B a : Nat} (_ : True) (h : Hid (B ≤ w.heap.size)) (o : Nat) (u : Value) : Hid (B ≤ (w.setCell ⟨a, o, none⟩ u).heap.size) := Lib.hid (by have := h.out; simpa using this)
section
variable {w w' : World} {g g' B : Nat} {M : List Nat} {o : Option Nat}
theorem out_move {g g' : Nat} (hg : g' = g ∨ w.heap.size ≤ g') : ∀ b, (Out (g :: M) b ∧ b < w.heap.size) → Out (g' :: M) b := fun b hb hc => by
  rcases List.mem_cons.1 hc with rfl | hc
  · rcases hg with rfl | hg
    · exact hb.1 (List.mem_cons_self ..)
    · have := hb.2; omega
  · exact hb.1 (List.mem_cons_of_mem _ hc)
theorem keeps_move (ho : o = none ∨ o = some g) (hg : w.grownBy w' o) : Keeps (fun b => Out (g :: M) b ∧ b < w.heap.size) w w' := Keeps.grown hg fun k hk hS => by
  rcases ho with rfl | rfl
  · cases hk
  · cases hk
    exact hS.1 (List.mem_cons_self ..)
theorem dk_move {Vs Vp : Value} {d : Dk} (h : Hid (DkAt w (Out (g :: M)) Vs Vp d)) (ho : o = none ∨ o = some g) (hg : w.grownBy w' o) (hl : g' = g ∨ w.heap.size ≤ g') : Hid (DkAt w' (Out (g' :: M)) Vs Vp d) :=
  Lib.hid (((h.out.weak (fun _ hb hl => ⟨hb, hl⟩)).keep (keeps_move ho hg)).weak fun b hb _ => out_move hl b hb)
theorem rw_move {V : Value} {l : List Bs} (h : Hid (RwAt w (Out (g :: M)) V l)) (ho : o = none ∨ o = some g) (hg : w.grownBy w' o) (hl : g' = g ∨ w.heap.size ≤ g') : Hid (RwAt w' (Out (g' :: M)) V l) :=
  Lib.hid (((h.out.weak (fun _ hb hl => ⟨hb, hl⟩)).keep (keeps_move ho hg)).weak fun b hb _ => out_move hl b hb)
theorem moved {g' ga : Nat} {s : Nat} (h : o = some g' ∨ s ≤ g') (ho : o = none ∨ o = some ga ∧ B ≤ ga) : g' = ga ∨ s ≤ g' := by
  rcases h with h | h
  · rcases ho with h2 | ⟨h2, _⟩
    · rw [h2] at h; cases h
    · rw [h2] at h; exact .inl (Option.some.inj h).symm
  · exact .inr h
theorem below_own {D B ga : Nat} {W w w' : World} (h : Below D W w) (hD : D ≤ B) (hDw : D ≤ w.heap.size) (ho : o = none ∨ o = some ga ∧ B ≤ ga) (hg : w.grownBy w' o) : Below D W w' := h.trans ((Below.refl D w).grown hg hDw fun k hk => by
  rcases ho with h2 | ⟨h2, h3⟩
  · rw [h2] at hk; cases hk
  · rw [h2] at hk; have := Option.some.inj hk; omega)
theorem box_move {b : Nat} {xs : List Value} (h : Box w b xs) (hg : w.grownBy w' o) (hne : o ≠ some b) : Box w' b xs := h.same (hg.block b h.lt (fun e => hne e.symm))
end
theorem OwnIs.cell {w : World} {base n c : Nat} {A : Option Addr} {l : List Int} (h : OwnIs w base (.slice A n c) l) {i : Nat} (hi : i < n) : n = l.length ∧ ∃ g, A = some ⟨g, 0, none⟩ ∧ base ≤ g ∧ g < w.heap.size ∧ w.cell? ⟨g, i, none⟩ = some (.int .i64 (l.getD i 0)) := by
  have h0 := h.2
  rcases h0 with ⟨e, _⟩ | ⟨g, cap, cur, e, _⟩
  · injection e with _ e; omega
  · injection e with e1 e2 e3
    subst e1 e2 e3
    obtain ⟨c1, c2, c3, _⟩ := own_cell h
    refine ⟨rfl, g, rfl, c1, c2, ?_⟩
    rw [c3 i hi, isV, List.getElem?_map, List.getD_eq_getElem?_getD, List.getElem?_eq_getElem hi]
    rfl
theorem OwnIs.form {w : World} {base : Nat} {V : Value} {l : List Int} (h : OwnIs w base V l) : ∃ A c, V = .slice A l.length c ∧ (A = none ∨ ∃ g, A = some ⟨g, 0, none⟩) := by
  rcases h.2 with ⟨e, h0⟩ | ⟨g, cap, cur, e, _⟩
  · rw [h0]; exact ⟨none, 0, e, .inl rfl⟩
  · exact ⟨_, cap, e, .inr ⟨g, rfl⟩⟩
section
variable {H : Type} {enc : TypeId × Value → H} {w : World} {base : Nat} {spare : Nat → Bool} {held : Bool}
theorem open_rowsF {r : Reach} {b0 : Nat} {v : Value} {d : DataW H} {p : List MemPlace} (hv : Value.okWide Try.prog w r b0 22 v) (h : DataW.Trod enc Try.prog w base spare held 22 v d p) (hfit : Fits 22 d) : ∃ l, RwAt w (Live w) v l ∧ ∀ b ∈ l, b.length ≤ 140737488351232 := by
  obtain ⟨A, len0, cap0, rfl⟩ := okWide_slice Try.underlying22 hv
  obtain ⟨n, h⟩ := h
  obtain ⟨l, h1, h2⟩ := trod_rows (show DataW.trod enc Try.prog w base spare held n 22 [.slice A len0 cap0] = some (d, p) from h)
  have e : reachBytes = 140737488351232 := rfl
  rw [← e]
  exact ⟨l, h1, h2 hfit⟩
end
end Go.Proofs.Ythlidhfahaalgaa
