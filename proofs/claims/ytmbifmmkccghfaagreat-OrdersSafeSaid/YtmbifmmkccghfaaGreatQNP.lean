/- Contracts of SamePacket, Few, New of the reference and New of network. No condition. -/
import Derived.Test.YtmbifmmkccghfaaGreatQNK
import Derived.Laws.BytesArg
import Derived.Test.YtmbifmmkccghfaaGreatQGA
import Derived.Lib.ConvBytes
import Derived.Test.YtmbifmmkccghfaaGreatQCO
import Derived.BigQuiet
import Derived.Test.YtmbifmmkccghfaaGreatQCV
import Derived.Deep.Cut
import Derived.Test.YtmbifmmkccghfaaGreatQK
import Derived.Deep.Quiet
import Derived.RangeFuncNested
import Derived.OwnWalkIn
set_option linter.unusedVariables false
set_option linter.unusedSimpArgs false
set_option maxRecDepth 100000
set_option maxHeartbeats 4000000
namespace Go.Proofs.YtmbifmmkccghfaaGreat
open Go.RowKit
def strBN (l : List UInt8) : ByteArray := ⟨l.toArray⟩
theorem strOfNums_bytesN (l : List UInt8) : strOfNums (l.map fun x => (x.toNat : Int)) = strBN l := by
  unfold strOfNums strBN
  congr 1
  simp [List.map_map, Function.comp_def]
theorem BytesAt.str {w : World} {B : Nat} {v : Value} {l : List UInt8} (h : BytesAt w B v l) : (convert 91 9 v).run Tryz.prog w = .ok (.string (strBN l)) w := by
  obtain ⟨A, c, rfl, hn, h1⟩ := h.2
  rcases A with _ | a
  · have hl : l = [] := by
      rcases l with _ | ⟨x, l⟩
      · rfl
      · obtain ⟨b, off, e, _⟩ := h1 0 (by simp)
        cases e
    subst hl
    rw [run_convert_bytes_nil w _ _ Tryz.underlying91 Tryz.underlying5 _ _ _ Tryz.underlying9]
    rfl
  · rcases Nat.eq_zero_or_pos l.length with h0 | h0
    · have hl : l = [] := List.eq_nil_of_length_eq_zero h0
      subst hl
      have hl : (loadCells a 0).run Tryz.prog w = .ok (([] : List Int).map (Value.int .u8)).toArray w := by simpa using run_loadCells_list (P := Tryz.prog) w a [] (fun j v hj => by simp at hj)
      rw [run_convert_bytes_string w _ _ _ _ _ _ Tryz.underlying91 Tryz.underlying5 Tryz.underlying9, List.length_nil, run_bytesToString w a 0 c [] hl]
      rfl
    · obtain ⟨b, off, e, _⟩ := h1 0 h0
      cases e
      rw [run_convert_bytes_arg w _ _ Tryz.underlying91 Tryz.underlying5 b off l.length c (l.map fun x => (x.toNat : Int)) (by simp) (fun i hi => ?_) _ Tryz.underlying9, strOfNums_bytesN]
      obtain ⟨b', off', e', _, h3⟩ := h1 i hi
      cases e'
      have := h3 0 (by omega)
      rw [Nat.mul_one, Nat.add_zero] at this
      rw [this]
      simp [List.getD_eq_getElem?_getD, List.getElem?_eq_getElem hi]
theorem nNew_any (w : World) : Calls Tryz.prog 26 #[] w fun e w' => e = .returned (.agg #[.slice none 0 0, .slice none 0 0]) ∧ Below w.heap.size w w' := by
  go_enter Tryz.func26, Tryz.ntmps26
  go_wp2
  exact bodyPost_ret (v := .agg #[.slice none 0 0, .slice none 0 0]) (by simp [results, Tryz.results26, go_sem]) rfl ⟨rfl, (Below.refl _ _).alloc (Nat.le_refl _) _⟩
end Go.Proofs.YtmbifmmkccghfaaGreat
namespace Go.Proofs.YtmbifmmkccghfaaGreat
open Go.RowKit
attribute [local go_sem ↓ high] eq_pair
end Go.Proofs.YtmbifmmkccghfaaGreat
namespace Go.Proofs.YtmbifmmkccghfaaGreat
open Go.RowKit
theorem Lks2.at {w : World} {D base : Nat} {v : Value} {l : List (Int × Int)} (h : Lks2 w D base v l) : LksAt w w.heap.size v l := ⟨h.1, h.2.sl⟩
theorem PksAt.form2 {w : World} {B : Nat} {v : Value} {q : List Pk} {k : Nat} (h : PksAt w B v q) (hk : q.length = k) : ∃ A c, v = .slice A k c ∧ k ≤ 9223372036854775807 := by
  obtain ⟨A, c, rfl, hm⟩ := h.form
  subst hk
  exact ⟨A, c, rfl, by unfold maxLen at hm; omega⟩
theorem LksAt.form2 {w : World} {B : Nat} {v : Value} {q : List (Int × Int)} {k : Nat} (h : LksAt w B v q) (hk : q.length = k) : ∃ A c, v = .slice A k c ∧ k ≤ 9223372036854775807 := by
  obtain ⟨A, c, rfl, hm⟩ := h.form
  subst hk
  exact ⟨A, c, rfl, by unfold maxLen at hm; omega⟩
theorem RetNet.is {t : Net × Int} {m : Net} {er : Int} {a b : Nat} {w w' : World} {e : Ending} (hh : RetNet t w.heap.size w e w') (h : Hid (t = (m, er))) (hq : Hid (m.queue.length = a)) (ha : Hid (m.apart.length = b)) :
    ∃ (Aq : Option Addr) (cq : Nat) (Aa : Option Addr) (ca : Nat), e = .returned (.tuple #[.agg #[.slice Aq a cq, .slice Aa b ca], .int .i64 er]) ∧ Hid (NetAt w' w'.heap.size (.slice Aq a cq) (.slice Aa b ca) m) ∧ Below w.heap.size w w' := by
  obtain ⟨Vq, Va, m', er', he, ht, hN, hb⟩ := hh
  have h2 := ht.out.symm.trans h.out
  injection h2 with h3 h4
  subst h3 h4
  have hN2 := hN.out.at hb.size
  obtain ⟨Aq, cq, rfl, _⟩ := hN2.queue.form2 hq.out
  obtain ⟨Aa, ca, rfl, _⟩ := hN2.apart.form2 ha.out
  exact ⟨Aq, cq, Aa, ca, he, hN2, hb⟩
theorem RetDel.is {t : Pk × Net × Int} {p : Pk} {m : Net} {er : Int} {a b k : Nat} {w w' : World} {e : Ending} (hh : RetDel t w.heap.size w e w') (h : Hid (t = (p, m, er))) (hq : Hid (m.queue.length = a)) (ha : Hid (m.apart.length = b)) (hk : Hid (p.data.length = k)) :
    ∃ (Ad : Option Addr) (cd : Nat) (Aq : Option Addr) (cq : Nat) (Aa : Option Addr) (ca : Nat), e = .returned (.tuple #[.agg #[.int .i64 p.src, .int .i64 p.dst, .slice Ad k cd], .agg #[.slice Aq a cq, .slice Aa b ca], .int .i64 er]) ∧
      Hid (BytesAt w' w'.heap.size (.slice Ad k cd) p.data) ∧ Hid (NetAt w' w'.heap.size (.slice Aq a cq) (.slice Aa b ca) m) ∧ Below w.heap.size w w' := by
  obtain ⟨V, p', Vq, Va, m', er', he, ht, hV, hN, hb⟩ := hh
  have h2 := ht.out.symm.trans h.out
  injection h2 with h3 h4
  injection h4 with h4 h5
  subst h3 h4 h5
  have hN2 := hN.out.at hb.size
  have hV2 := hV.out.more hb.size
  obtain ⟨Aq, cq, rfl, _⟩ := hN2.queue.form2 hq.out
  obtain ⟨Aa, ca, rfl, _⟩ := hN2.apart.form2 ha.out
  obtain ⟨Ad, cd, rfl, _⟩ := hV2.form
  rw [hk.out] at he hV2
  exact ⟨Ad, cd, Aq, cq, Aa, ca, he, hV2, hN2, hb⟩
end Go.Proofs.YtmbifmmkccghfaaGreat
namespace Go.Proofs.YtmbifmmkccghfaaGreat
open Go.RowKit
theorem conv_bytes (w : World) (s : Bs) (hs : s.length ≤ maxLen) : ∃ c w', (convert 9 91 (.string (strB s))).run Tryz.prog w = .ok (.slice (some ⟨w.heap.size, 0, none⟩) s.length c) w' ∧ BsAt w' (fun b => b < w'.heap.size) (.slice (some ⟨w.heap.size, 0, none⟩) s.length c) s ∧ Below w.heap.size w w' := by
  have hr := Lib.run_convert_string_bytes (P := Tryz.prog) w 9 91 5 (strB s) Tryz.underlying9 Tryz.underlying91 Tryz.underlying5
  have hsz : (strB s).size = s.length := rfl
  rw [hsz] at hr
  refine ⟨_, _, hr, ⟨.inr ⟨_, _, _, rfl, grownCap_ge _ _ _ _, grownCap_le_maxLen _ _ _ _ hs⟩, _, _, rfl, hs, fun i hi => ⟨w.heap.size, 0, rfl, ?_, ?_, fun j hj => ?_⟩⟩, ?_⟩
  · rw [Lib.bytesWorld_size]; omega
  · rw [Lib.bytesWorld_size]; omega
  · obtain rfl : j = 0 := by omega
    have := Lib.bytesWorld_cell w 5 (strB s) i hi
    simp only [Nat.zero_add, Nat.mul_one, Nat.add_zero]
    exact this
  · exact ⟨rfl, rfl, rfl, by rw [Lib.bytesWorld_size]; omega, fun k hk => Lib.bytesWorld_at_old w _ _ k hk⟩
end Go.Proofs.YtmbifmmkccghfaaGreat
namespace Go.Proofs.YtmbifmmkccghfaaGreat
open Go.RowKit
attribute [local go_sem ↓ high] app_named
theorem RetDec.open {x : Val} {er : Int} {w : World} {e : Ending} {w' : World} (h : RetDec (x, er) w e w') : ∃ A c, e = .returned (.tuple #[.agg #[.int .i64 x.kind, .int .i64 x.num, .string (strB x.str), .slice A x.elems.length c], .int .i64 er]) ∧ ValsP w' (fun b => w.heap.size ≤ b) 16 (.slice A x.elems.length c) x.elems ∧ Below w.heap.size w w' := by
  obtain ⟨L, rfl, h1, h2⟩ := h
  obtain ⟨A, c, hv, _⟩ := h1.form
  dsimp only at hv h1 ⊢
  subst hv
  exact ⟨A, c, rfl, h1, h2⟩
end Go.Proofs.YtmbifmmkccghfaaGreat
namespace Go.Proofs.YtmbifmmkccghfaaGreat
open Go.RowKit
attribute [local go_sem ↓ high] app_named
def Any : Nat → Prop := fun _ => True
theorem RetEnc.open {T : Bs} {er : Int} {n : Nat} {w : World} {e : Ending} {w' : World} (h : RetEnc (T, er) w e w') (hn : Hid (T.length = n)) : ∃ A c, e = .returned (.tuple #[.slice A n c, .int .i64 er]) ∧ Hid (BsAt w' Any (.slice A n c) T) ∧ Below w.heap.size w w' := by
  obtain ⟨V, rfl, h1, h2⟩ := h
  obtain ⟨A, c, hv, _⟩ := h1.form
  dsimp only at hv h1 ⊢
  subst hv
  rw [hn.out] at h1 ⊢
  exact ⟨A, c, rfl, Lib.hid (h1.weak fun _ _ _ => trivial), h2⟩
theorem Later.str {W : World} {S : Nat → Prop} {v : Value} {l : Bs} (h : BsAt W S v l) (u : Later W) : (convert 91 9 v).run Tryz.prog u.w = .ok (.string (strB l)) u.w := (h.keep (Keeps.of u.below)).str
end Go.Proofs.YtmbifmmkccghfaaGreat
namespace Go.Proofs.YtmbifmmkccghfaaGreat
open Go.RowKit
def Rc (w : World) (D rb : Nat) (A : Option Addr) (n c : Nat) (l : Bs) (p : Nat) (bd : Bool) : Prop := Box w rb [.slice A n c, .int .i64 p, .bool bd] ∧ BsAt w (fun b => b < D ∧ b ≠ rb) (.slice A n c) l ∧ l.length = n ∧ p ≤ n
theorem Rc.keep {w w' : World} {D rb n c p : Nat} {A : Option Addr} {l : Bs} {bd : Bool} (h : Rc w D rb A n c l p bd) (hb : Below w.heap.size w w') : Rc w' D rb A n c l p bd := ⟨h.1.later hb, h.2.1.keep (Keeps.of hb), h.2.2⟩
theorem Rc.keepG {w w' : World} {D rb n c p : Nat} {A : Option Addr} {l : Bs} {bd : Bool} {r : Option Nat} (h : Rc w D rb A n c l p bd) (hg : w.grownBy w' r) (hr : ∀ k, r = some k → D ≤ k ∧ k ≠ rb) : Rc w' D rb A n c l p bd :=
  ⟨h.1.same (hg.block rb h.1.lt fun e => (hr rb e.symm).2 rfl), h.2.1.keep ⟨hg.size, fun b hb hl => hg.block b hl fun e => by have := (hr b e.symm).1; omega⟩, h.2.2⟩
theorem Rc.lt {w : World} {D rb n c p : Nat} {A : Option Addr} {l : Bs} {bd : Bool} (h : Rc w D rb A n c l p bd) : rb < w.heap.size := h.1.lt
theorem Rc.drewN {w : World} {D rb n c p : Nat} {A : Option Addr} {l : Bs} {bd : Bool} (h : Rc w D rb A n c l p bd) (j : Nat) : Rc (w.drewN j) D rb A n c l p bd := h.keep (below_drewN (Below.refl w.heap.size w) j)
def RetNumR (t : Option (Nat × Bs)) (D rb : Nat) (A : Option Addr) (n c : Nat) (l : Bs) (w : World) (e : Ending) (w' : World) : Prop :=
  w.grownBy w' (some rb) ∧ match t with
  | some (u, r) => e = .returned (.int .u64 u) ∧ ∃ p, l.drop p = r ∧ Rc w' D rb A n c l p false
  | none => e = .returned (.int .u64 0) ∧ ∃ p, Rc w' D rb A n c l p true
end Go.Proofs.YtmbifmmkccghfaaGreat
namespace Go.Proofs.YtmbifmmkccghfaaGreat
open Go.RowKit
attribute [local go_sem ↓ high] app_named
theorem RetNumR.any {t : Option (Nat × Bs)} {D rb n c : Nat} {A : Option Addr} {l : Bs} {w : World} {e : Ending} {w' : World} (ht : ∀ y r, t = some (y, r) → y < 18446744073709551616) (h : RetNumR t D rb A n c l w e w') : ∃ (u p : Nat) (bd : Bool), e = .returned (.int .u64 u) ∧ Rc w' D rb A n c l p bd ∧ w.grownBy w' (some rb) ∧ u < 18446744073709551616 ∧ (∀ y r, t = some (y, r) → u = y ∧ bd = false ∧ l.drop p = r) ∧ (t = none → bd = true) := by
  obtain ⟨hg, h⟩ := h
  rcases t with _ | ⟨y, r⟩
  · obtain ⟨rfl, p, hR⟩ := h
    exact ⟨0, p, true, rfl, hR, hg, by decide, fun y r h => (by cases h), fun _ => rfl⟩
  · obtain ⟨rfl, p, hp, hR⟩ := h
    exact ⟨y, p, false, rfl, hR, hg, ht y r rfl, fun y1 r1 h => (by cases h; exact ⟨rfl, rfl, hp⟩), fun h => (by cases h)⟩
end Go.Proofs.YtmbifmmkccghfaaGreat
namespace Go.Proofs.YtmbifmmkccghfaaGreat
open Go.RowKit
attribute [local go_sem ↓ high] app_named
end Go.Proofs.YtmbifmmkccghfaaGreat
namespace Go.Proofs.YtmbifmmkccghfaaGreat
open Go.RowKit
attribute [local go_sem ↓ high] app_named
def Way (m u k : Nat) (xs : List Val) (q : Bs) (bd : Bool) (TT : Option (List Val × Bs)) : Prop := match bd with
  | true => none = TT
  | false => ((rdMany (rdVal m) (u - k) q).map fun z => (xs ++ z.1, z.2)) = TT
theorem Way.step {m u k : Nat} {xs : List Val} {q q2 : Bs} {x : Val} {bd : Bool} {TT : Option (List Val × Bs)} (hk : k < u) (h : Way m u k xs q false TT) (hm : match rdVal m q with | some (y, r) => bd = false ∧ x = y ∧ q2 = r | none => bd = true) : Way m u (k + 1) (xs ++ [x]) q2 bd TT := by
  obtain ⟨j, hj⟩ : ∃ j, u - k = j + 1 := ⟨u - k - 1, by omega⟩
  have hj2 : u - (k + 1) = j := by omega
  unfold Way at h ⊢
  dsimp only at h
  rw [hj, rdMany] at h
  rcases hv : rdVal m q with _ | ⟨y, r⟩
  · rw [hv] at h hm
    dsimp only at hm
    subst hm
    exact h
  · rw [hv] at h hm
    obtain ⟨rfl, rfl, rfl⟩ := hm
    rw [Option.bind_some] at h
    dsimp only
    rw [hj2, ← h]
    rcases rdMany (rdVal m) j q2 with _ | ⟨l2, q3⟩
    · rfl
    · simp only [Option.map_some, List.append_assoc, List.singleton_append]
theorem Way.done {m u : Nat} {xs : List Val} {q : Bs} {TT : Option (List Val × Bs)} (h : Way m u u xs q false TT) : TT = some (xs, q) := by
  unfold Way at h
  dsimp only at h
  rw [← h, Nat.sub_self, rdMany]
  simp
end Go.Proofs.YtmbifmmkccghfaaGreat
namespace Go.Proofs.YtmbifmmkccghfaaGreat
open Go.RowKit
attribute [local go_sem ↓ high] app_named
end Go.Proofs.YtmbifmmkccghfaaGreat
namespace Go.Proofs.YtmbifmmkccghfaaGreat
open Go.RowKit
attribute [local go_sem ↓ high] app_named
end Go.Proofs.YtmbifmmkccghfaaGreat
namespace Go.Proofs.YtmbifmmkccghfaaGreat
open Go.RowKit
attribute [local go_sem ↓ high] app_named
end Go.Proofs.YtmbifmmkccghfaaGreat
namespace Go.Proofs.YtmbifmmkccghfaaGreat
open Go.RowKit
theorem vals_two {w : World} {b : Nat} {n o : Int} (X : Box w b [.int .i64 1, .int .i64 n, .string ⟨#[]⟩, .slice none 0 0, .int .i64 1, .int .i64 o, .string ⟨#[]⟩, .slice none 0 0]) : ValsAt w w.heap.size 1 (.slice (some ⟨b, 0, none⟩) 2 2) [intV n, intV o] := by
  refine ⟨.inr ⟨_, _, _, rfl, Nat.le_refl _, by simp [maxLen]⟩, fun _ => .slice none 0 0, ⟨_, _, rfl, by simp [maxLen], fun i hi => ⟨b, 0, rfl, X.lt, fun j hj => ?_⟩⟩, fun i x hx => ?_⟩
  · have hi : i < 2 := hi
    rw [Nat.zero_add, X.cell]
    rcases (show i = 0 ∨ i = 1 by omega) with rfl | rfl <;> rcases (show j = 0 ∨ j = 1 ∨ j = 2 ∨ j = 3 by omega) with rfl | rfl | rfl | rfl <;> rfl
  · match i, hx with
    | 0, hx =>
      obtain rfl : intV n = x := by simpa using hx
      exact valsAt_nil w _ 0
    | 1, hx =>
      obtain rfl : intV o = x := by simpa using hx
      exact valsAt_nil w _ 0
    | i + 2, hx => simp at hx
theorem enc_msg (n o : Int) : encT (msgV n o) = (msgB n o, 0) := enc_ok (msg_chk n o)
theorem oMessage_is {n o : Int} (h1 : I64 n) (h2 : I64 o) {T : Bs} (hT : Hid (msgB n o = T)) (w : World) : Calls Tryz.prog 40 #[.int .i64 n, .int .i64 o] w fun e w' => e = .returned (.string (strB T)) ∧ Below w.heap.size w w' := by
  have hl := msg_len h1 h2
  have hf := msg_fits h1 h2
  have he := enc_msg n o
  go_enter Tryz.func40, Tryz.ntmps40
  go_wp2_with fail
  have X := Box.new w [.int .i64 1, .int .i64 n, .string ⟨#[]⟩, .slice none 0 0, .int .i64 1, .int .i64 o, .string ⟨#[]⟩, .slice none 0 0] 151
  have hB := (Below.refl w.heap.size w).alloc (Nat.le_refl _) (.cells #[.int .i64 1, .int .i64 n, .string ⟨#[]⟩, .slice none 0 0, .int .i64 1, .int .i64 o, .string ⟨#[]⟩, .slice none 0 0] 151)
  generalize w.alloc (.cells #[.int .i64 1, .int .i64 n, .string ⟨#[]⟩, .slice none 0 0, .int .i64 1, .int .i64 o, .string ⟨#[]⟩, .slice none 0 0] 151) = w1 at X hB ⊢
  refine (cEncode_any 1 (by omega) (msgV n o) _ w1 (vals_two X) hf (by show (msgB n o).length ≤ _; omega)).mono ?_
  rintro e w2 ⟨V, rfl, hV, hb⟩
  have hB := hB.trans (hb.mono hB.size)
  rw [he] at hV ⊢
  dsimp only at hV ⊢
  rw [hT.out] at hV
  obtain ⟨A, c, rfl, -⟩ := hV.form
  have hs := take_str hV
  clear hV hb X he
  go_wp2
  go_ret
  exact ⟨rfl, hB⟩
theorem vals_pair {w : World} {B d : Nat} {L : Value} {a c : Val} (h : ValsAt w B (d + 1) L [a, c]) : ∃ b off cp, L = .slice (some ⟨b, off, none⟩) 2 cp ∧ b < B ∧ w.cell? ⟨b, off, none⟩ = some (.int .i64 a.kind) ∧ w.cell? ⟨b, off + 1, none⟩ = some (.int .i64 a.num) ∧ w.cell? ⟨b, off + 4, none⟩ = some (.int .i64 c.kind) ∧ w.cell? ⟨b, off + 4 + 1, none⟩ = some (.int .i64 c.num) := by
  obtain ⟨_, V, ⟨A, cp, hv, _, h1⟩, _⟩ := h
  obtain ⟨b, off, rfl, hb, h2⟩ := h1 0 (by simp)
  obtain ⟨b', off', e', _, h3⟩ := h1 1 (by simp)
  cases e'
  exact ⟨b, off, cp, hv, hb, h2 0 (by omega), h2 1 (by omega), h3 0 (by omega), h3 1 (by omega)⟩
theorem bs_of {w : World} {V : Value} {l : Bs} (h : BytesAt w w.heap.size V l) : BsAt w (fun b => b < w.heap.size) V l := by
  obtain ⟨h0, A, c, hv, hn, h1⟩ := h
  refine ⟨h0, A, c, hv, hn, fun i hi => ?_⟩
  obtain ⟨b, off, hA, hb, h2⟩ := h1 i hi
  exact ⟨b, off, hA, hb, hb, h2⟩
theorem two_of {es : List Val} (h : es.length = 2) : ∃ a c, es = [a, c] := by
  match es, h with
  | [a, c], _ => exact ⟨a, c, rfl⟩
theorem oNumber_is {l : Bs} {V : Value} {w : World} {T : Int} (hT : Hid (numberT l = T)) (hb : BytesAt w w.heap.size V l) (hl : l.length ≤ 79000000) : Calls Tryz.prog 42 #[V] w fun e w' => e = .returned (.int .i64 T) ∧ Below w.heap.size w w' := by
  obtain ⟨⟨⟨k, nn, s, es⟩, er⟩, hd⟩ : ∃ p, decT l = p := ⟨_, rfl⟩
  have hT := hT.out
  rw [numberT, hd] at hT
  dsimp only at hT
  have HD := Lib.hid hd
  have HT := Lib.hid hT
  clear hT hd
  have hbs := Lib.hid (bs_of hb)
  obtain ⟨A, c, rfl, -⟩ := hb.form
  clear hb
  go_enter Tryz.func42, Tryz.ntmps42
  go_wp2_with fail
  refine (cDecode_any l _ w hbs.out (by omega)).mono ?_
  rintro e w2 ⟨L, rfl, hV, hB⟩
  rw [HD.out] at hV ⊢
  dsimp only [Val.elems] at hV
  have hV := hV.vals
  obtain ⟨AL, cL, rfl, -⟩ := hV.form
  obtain ⟨m, hm⟩ : ∃ m, es.length = m := ⟨_, rfl⟩
  rw [hm] at hV ⊢
  dsimp only [Val.v, Val.kind, Val.num, Val.str]
  have HM := Lib.hid hm
  have HV := Lib.hid hV
  clear hm hV HD
  go_upto_region 2 with fail
  have X := Box.new w2 [.int .i64 k, .int .i64 nn, .string (strB s), .slice AL m cL] 151
  have hal := (Below.refl w2.heap.size w2).alloc (Nat.le_refl _) (.cells #[.int .i64 k, .int .i64 nn, .string (strB s), .slice AL m cL] 151)
  have HV := Lib.hid ((HV.out.below hal).more hal.size)
  have hB := hB.trans (hal.mono hB.size)
  clear hal
  generalize w2.alloc (.cells #[.int .i64 k, .int .i64 nn, .string (strB s), .slice AL m cL] 151) = w3 at X HV hB ⊢
  generalize w2.heap.size = D at X ⊢
  have x0 : w3.cell? ⟨D, 0, none⟩ = some (.int .i64 k) := X.cell 0
  have x3 : w3.cell? ⟨D, 3, none⟩ = some (.slice AL m cL) := X.cell 3
  have xz := X.lt
  by_cases h0 : er = 0
  rotate_left
  · have d0 : (er != 0) = true := by simp [h0]
    obtain rfl : T = -1 := by rw [← HT.out, if_neg h0]
    go_wp2
    go_ret
    exact ⟨rfl, hB⟩
  subst h0
  by_cases hk : k = 3
  rotate_left
  · have d0 : (k != 3) = true := by simp [hk]
    obtain rfl : T = -1 := by rw [← HT.out, if_pos rfl, first_kind hk]
    go_wp2
    go_ret
    exact ⟨rfl, hB⟩
  subst hk
  by_cases h2 : m = 2
  rotate_left
  · have d0 : ((m : Int) != 2) = true := by simp; omega
    obtain rfl : T = -1 := by rw [← HT.out, if_pos rfl, first_len (by rw [HM.out]; exact h2)]
    go_wp2
    go_ret
    exact ⟨rfl, hB⟩
  subst h2
  obtain ⟨a, c', rfl⟩ := two_of HM.out
  obtain ⟨b2, o2, cp, eL, hb2, v0, v1, v2, v3⟩ := vals_pair HV.out
  cases eL
  have d0 : ((2 : Int) != 2) = false := by decide
  by_cases ha : a.kind = 1
  rotate_left
  · have d1 : (a.kind != 1) = true := by simp [ha]
    obtain rfl : T = -1 := by rw [← HT.out, if_pos rfl, first_two, if_neg (fun h => ha h.1)]
    go_wp2
    go_ret
    exact ⟨rfl, hB⟩
  have hTT : T = if 0 ≤ a.num then a.num else -1 := by
    rw [← HT.out, if_pos rfl, first_two]
    simp only [ha, true_and]
  have HTT := Lib.hid hTT
  clear hTT
  rw [ha] at v0
  generalize a.num = u at v1 HTT
  by_cases h3 : 0 ≤ u
  · have d1 : decide (u < 0) = false := decide_eq_false (by omega)
    have d2 : ¬ (u < 0) := by omega
    obtain rfl : T = u := by rw [HTT.out, if_pos h3]
    go_wp2
    go_ret
    exact ⟨rfl, hB⟩
  · have d1 : decide (u < 0) = true := decide_eq_true (by omega)
    have d2 : u < 0 := by omega
    obtain rfl : T = -1 := by rw [HTT.out, if_neg h3]
    go_wp2
    go_ret
    exact ⟨rfl, hB⟩
end Go.Proofs.YtmbifmmkccghfaaGreat
namespace Go.Proofs.YtmbifmmkccghfaaGreat
open Go.RowKit
def Nrm (N : Act → World → Prop) : Exit → Act → World → Prop
  | .normal, a, w => N a w
  | _, _, _ => False
theorem nrm_out (N : Act → World → Prop) : ¬ LetsOut (Nrm N) := fun ⟨_, _, h⟩ => h
section
variable {P : Program} {ops : Array Oper} {md : Region.Mode} {N : Act → World → Prop} {C : World → Prop}
theorem wpOp_go {Q : Exit → Act → World → Prop} {j : Nat} {o : Oper} (hj : ops[j]? = some o) {K K' : Act → World → Prop} {a b : Act} {w : World} (hr : execOp b.eval o = execOp a.eval o)
    (hw : Region.wanted o (yielded ops b.tmps) = Region.wanted o (yielded ops a.tmps)) (hd : b.defers = a.defers) (h : wpOp P ops (Nrm N) j K b w)
    (hK : ∀ u D w', K (Act.put { b with defers := D } o.dst u) w' → K' (Act.put { a with defers := D } o.dst u) w') : wpOp P ops Q j K' a w := by
  have H : ∀ u w', K (b.put o.dst u) w' → K' (a.put o.dst u) w' := fun u w' hk => by
    have := hK u a.defers w'
    rw [← hd] at this
    rw [hd] at this
    have e : ({ b with defers := a.defers } : Act) = b := by rw [← hd]
    rw [e] at this
    exact this hk
  unfold wpOp at h ⊢
  simp only [hj, hw] at h ⊢
  split
  · rename_i hw
    simp only [hw, if_true] at h
    rcases h with h | h
    · refine .inl ?_
      unfold Oper.wp at h ⊢
      rw [hr] at h
      generalize (execOp a.eval o).run P w = r at h ⊢
      rcases r with ⟨n, w'⟩ | ⟨x, w'⟩
      · have HD : ∀ d, K (Act.put { b with defers := d :: b.defers } o.dst undef) w' → K' (Act.put { a with defers := d :: a.defers } o.dst undef) w' := fun d hk => by
          rw [hd] at hk
          exact hK undef (d :: a.defers) w' hk
        cases n
        all_goals first
          | exact H _ _ h
          | exact False.elim h
          | exact HD _ h
          | (refine Calls.mono h fun e w'' he => ?_; cases e <;> first | exact H _ _ he | exact he.elim | exact (nrm_out N he).elim)
          | exact Rows.mono h fun u w'' he => H _ _ he
      · cases x <;> exact False.elim h
    · exact (nrm_out N h.2).elim
  · rename_i hw
    simp only [hw] at h
    exact H _ _ h
def anyC (P : Program) (md : Region.Mode) (ops : Array Oper) (N : Act → World → Prop) (C : World → Prop) : Nat → Array Bool → Act → World → Prop
  | 0, listed, a, w => C w ∧ Region.ready md ops listed = [] ∧ N a w
  | n + 1, listed, a, w => C w ∧ (Region.ready md ops listed = [] → N a w) ∧ ∀ i ∈ Region.ready md ops listed, wpOp P ops (Nrm N) i (anyC P md ops N C n (listed.setIfInBounds i true)) a w
theorem anyC_world : ∀ {n : Nat} {listed : Array Bool} {a : Act} {w : World}, anyC P md ops N C n listed a w → C w
  | 0, _, _, _, h => h.1
  | _ + 1, _, _, _, h => h.1
theorem anyC_any {Q : Exit → Act → World → Prop} (hN : ∀ a w, N a w → Q .normal a w) : ∀ {n : Nat} {listed : Array Bool} {a : Act} {w : World}, anyC P md ops N C n listed a w → wpAny P md ops Q n listed a w
  | 0, _, _, _, h => ⟨h.2.1, hN _ _ h.2.2⟩
  | n + 1, listed, a, w, h => ⟨fun h0 => hN _ _ (h.2.1 h0), fun i hi => by
      obtain ⟨_, o, ho, _⟩ := mem_ready.1 hi
      exact wpOp_go ho rfl rfl rfl (h.2.2 i hi) fun _ _ _ hk => anyC_any hN hk⟩
def YieldsC (P : Program) (ops : Array Oper) (C : World → Prop) (o : Oper) (v : Value) (a : Act) : Prop :=
  (Region.wanted o (yielded ops a.tmps) = true ∧ ∀ w, C w → (execOp a.eval o).run P w = .ok (.value v) w) ∨ (Region.wanted o (yielded ops a.tmps) = false ∧ v = undef)
theorem YieldsC.wpOp {Q : Exit → Act → World → Prop} {i : Nat} {o : Oper} {v : Value} {a : Act} {w : World} (hi : ops[i]? = some o) (h : YieldsC P ops C o v a) (hC : C w) {K : Act → World → Prop} (hK : K (a.put o.dst v) w) : wpOp P ops Q i K a w := by
  unfold Go.wpOp
  rcases h with ⟨h1, h2⟩ | ⟨h1, rfl⟩
  · simp only [hi, h1, if_true]
    exact .inl (by unfold Oper.wp; rw [h2 w hC]; exact hK)
  · simp only [hi, h1, Bool.false_eq_true, if_false]
    exact hK
theorem anyC_first {i : Nat} {oi : Oper} {v : Value} (hi : ops[i]? = some oi) (hsel : ∀ (j : Nat) (o : Oper) cs b, ops[j]? = some o → o.op ≠ .select cs b) :
    ∀ (n : Nat) (listed : Array Bool) (a : Act) (w : World),
      (∀ j oj, ops[j]? = some oj → j ≠ i → listed.getD j true = false → (∀ e ∈ oj.after, Region.binds md e = true → e.on ≠ i) → oi.apart ops oj = true) →
      i ∈ Region.ready md ops listed → YieldsC P ops C oi v a →
      anyC P md ops N C n (listed.setIfInBounds i true) (a.put oi.dst v) w → anyC P md ops N C (n + 1) listed a w
  | n, listed, a, w, hfree, hr, hy, H => by
    have hC := anyC_world H
    refine ⟨hC, fun h => (by rw [h] at hr; cases hr), fun j hj => ?_⟩
    by_cases hji : j = i
    · subst hji; exact hy.wpOp hi hC H
    · have hjr := ready_mono (i := i) hj hji
      match n, H with
      | 0, H =>
        rw [H.2.1] at hjr
        cases hjr
      | n + 1, H =>
        obtain ⟨hjun, oj, hoj, hall⟩ := mem_ready.1 hj
        have hiun := (mem_ready.1 hr).1
        have hnot : ∀ e ∈ oj.after, Region.binds md e = true → e.on ≠ i := fun e he hb heq => by
          have h1 := hall e he hb
          rw [heq] at h1
          rcases Nat.lt_or_ge i listed.size with h' | h'
          · simp [h'] at hiun h1; rw [hiun] at h1; cases h1
          · simp [Array.getElem?_eq_none h'] at h1
        obtain ⟨h1, h2, h3⟩ := Oper.apart_spec (hfree j oj hoj hji hjun hnot)
        refine wpOp_go hoj (execOp_put oj (fun cs b => hsel j oj cs b hoj) a oi.dst v h1) (wanted_put oj a oi.dst v h1) (by cases oi.dst <;> rfl) (H.2.2 j hjr) fun u D w' hk => ?_
        refine anyC_first (v := v) hi hsel n _ _ _ (fun k ok hk hki hun hno => hfree k ok hk hki ?_ hno) (ready_mono hr (Ne.symm hji)) ?_ ?_
        · by_cases hjk : j = k
          · subst hjk; exact hjun
          · rw [getD_set_ne true hjk] at hun; exact hun
        · have e1 : execOp (Act.put { a with defers := D } oj.dst u).eval oi = execOp a.eval oi := execOp_put oi (fun cs b => hsel i oi cs b hi) { a with defers := D } oj.dst u h3
          have e2 := wanted_put oi { a with defers := D } oj.dst u h3
          rcases hy with ⟨y1, y2⟩ | ⟨y1, y2⟩
          · exact .inl ⟨e2.trans y1, fun w hw => by rw [e1]; exact y2 w hw⟩
          · exact .inr ⟨e2.trans y1, y2⟩
        · rw [Array.setIfInBounds_comm _ _ hji]
          have e3 : ({ a.put oi.dst v with defers := D } : Act) = Act.put { a with defers := D } oi.dst v := by cases oi.dst <;> rfl
          rw [e3, Act.put_comm _ v u h2] at hk
          exact hk
def valOp : Op → Bool
  | .move _ => true
  | .assign _ => true
  | .load _ _ => true
  | .build _ _ => true
  | .binOp _ _ _ _ _ => true
  | .fieldAddr _ _ _ => true
  | .indexAddr _ _ _ => true
  | .slice _ _ _ _ _ => true
  | .convert _ _ _ => true
  | .unOp _ _ _ => true
  | .pick _ _ _ => true
  | .extract _ _ => true
  | _ => false
theorem value_only {s : Sem Value} {w w' : World} {n : Next} (h : (do pure (Next.value (← s)) : Sem Next).run P w = .ok n w') : ∃ u, n = .value u := by
  rw [Sem.run_bind] at h
  generalize s.run P w = r at h
  rcases r with ⟨x, w1⟩ | ⟨x, w1⟩
  · simp only [Result.andThen_ok, Sem.run_pure, Result.ok.injEq] at h
    exact ⟨x, h.1.symm⟩
  · cases h
theorem pick_only {s : Sem Bool} {x y : Value} {w w' : World} {n : Next} (h : (do pure (Next.value (if (← s) then x else y)) : Sem Next).run P w = .ok n w') : ∃ u, n = .value u := by
  rw [Sem.run_bind] at h
  generalize s.run P w = r at h
  rcases r with ⟨b, w1⟩ | ⟨b, w1⟩
  · simp only [Result.andThen_ok, Sem.run_pure, Result.ok.injEq] at h
    exact ⟨_, h.1.symm⟩
  · cases h
theorem valOp_value {o : Oper} (ho : valOp o.op = true) {ρ : Operand → Value} {w w' : World} {n : Next} (h : (execOp ρ o).run P w = .ok n w') : ∃ u, n = .value u := by
  obtain ⟨dst, op, type, pos, after, guard⟩ := o
  cases op <;> first | (cases ho; done) | exact value_only h | exact pick_only h | (simp only [execOp, Sem.run_pure, Result.ok.injEq] at h; exact ⟨_, h.1.symm⟩)
theorem yieldsC_of {o : Oper} (ho : valOp o.op = true) {a : Act} {v : Value} (hw : Region.wanted o (yielded ops a.tmps) = true) (h : ∀ w, C w → o.quietAt P a C w v) : YieldsC P ops C o v a := by
  refine .inl ⟨hw, fun w hC => ?_⟩
  have h1 := h w hC
  unfold Oper.quietAt at h1
  generalize hr : (execOp a.eval o).run P w = r at h1 ⊢
  rcases r with ⟨n, w'⟩ | ⟨x, w'⟩
  · obtain ⟨u, rfl⟩ := valOp_value ho hr
    obtain ⟨rfl, rfl⟩ := h1
    rfl
  · cases h1
def headsB (md : Region.Mode) (ops : Array Oper) : List Nat → Array Bool → Bool
  | [], _ => true
  | k :: ks, listed => (Region.ready md ops listed).contains k && (Region.free md ops listed k && ((match ops[k]? with | some o => valOp o.op | none => false) && headsB md ops ks (listed.setIfInBounds k true)))
def headsL : List Nat → Array Bool → Array Bool
  | [], listed => listed
  | k :: ks, listed => headsL ks (listed.setIfInBounds k true)
def headOps (ops : Array Oper) (ks : List Nat) : List Oper := ks.filterMap fun k => ops[k]?
theorem anyC_heads (hs : Region.noSelect ops = true) (n : Nat) (w : World) (hC : C w) : ∀ (ks : List Nat) (listed : Array Bool) (a : Act),
    headsB md ops ks listed = true → wpQuiet P ops C (fun a' => anyC P md ops N C n (headsL ks listed) a' w) (headOps ops ks) a → anyC P md ops N C (n + ks.length) listed a w
  | [], _, _, _, h => h
  | k :: ks, listed, a, hB, h => by
    cases h0 : ops[k]? with
    | none => simp [headsB, h0] at hB
    | some o =>
    simp only [headsB, Bool.and_eq_true, h0] at hB
    obtain ⟨hr, hf, hv, hB⟩ := hB
    rw [headOps, List.filterMap_cons, h0] at h
    unfold wpQuiet at h
    by_cases hw : Region.wanted o (yielded ops a.tmps) = true
    · rw [if_pos hw] at h
      obtain ⟨v, h1, h2⟩ := h
      exact anyC_first h0 (Region.noSelect_spec hs) (n + ks.length) listed a w (Region.free_spec h0 hf) (by simpa using hr) (yieldsC_of hv hw h1) (anyC_heads hs n w hC ks _ _ hB h2)
    · rw [if_neg hw] at h
      exact anyC_first h0 (Region.noSelect_spec hs) (n + ks.length) listed a w (Region.free_spec h0 hf) (by simpa using hr) (.inr ⟨by simpa using hw, rfl⟩) (anyC_heads hs n w hC ks _ _ hB h)
theorem anyC_step {n i : Nat} {o : Oper} {listed : Array Bool} {a : Act} {w : World} (hr : Region.ready md ops listed = [i]) (hi : ops[i]? = some o) (hw : Region.wanted o (yielded ops a.tmps) = true) (hC : C w)
    (h : ∀ K : Act → World → Prop, (∀ a' w', anyC P md ops N C n (listed.setIfInBounds i true) a' w' → K a' w') → Oper.wp P o a w K (Nrm N)) : anyC P md ops N C (n + 1) listed a w := by
  refine ⟨hC, fun h0 => (by rw [h0] at hr; cases hr), fun j hj => ?_⟩
  rw [hr] at hj
  obtain rfl : j = i := by simpa using hj
  unfold wpOp
  simp only [hi, hw, if_true]
  exact .inl (h _ fun _ _ hk => hk)
theorem anyC_skip {n i : Nat} {o : Oper} {listed : Array Bool} {a : Act} {w : World} (hr : Region.ready md ops listed = [i]) (hi : ops[i]? = some o) (hw : Region.wanted o (yielded ops a.tmps) = false) (hC : C w)
    (h : anyC P md ops N C n (listed.setIfInBounds i true) (a.put o.dst undef) w) : anyC P md ops N C (n + 1) listed a w := by
  refine ⟨hC, fun h0 => (by rw [h0] at hr; cases hr), fun j hj => ?_⟩
  rw [hr] at hj
  obtain rfl : j = i := by simpa using hj
  unfold wpOp
  simp only [hi, hw, Bool.false_eq_true, if_false]
  exact h
theorem anyC_call {n i : Nat} {o : Oper} {f : FuncId} {args : Array Value} {listed : Array Bool} {a : Act} {w : World} (hr : Region.ready md ops listed = [i]) (hi : ops[i]? = some o) (hw : Region.wanted o (yielded ops a.tmps) = true) (hC : C w)
    (hrun : (execOp a.eval o).run P w = .ok (.enter f args) w) (h : Calls P f args w fun e w' => ∃ v, e = .returned v ∧ anyC P md ops N C n (listed.setIfInBounds i true) (a.put o.dst v) w') : anyC P md ops N C (n + 1) listed a w :=
  anyC_step hr hi hw hC fun K hK => by
    unfold Oper.wp
    rw [hrun]
    exact Calls.mono h fun e w' ⟨v, he, hk⟩ => by subst he; exact hK _ _ hk
theorem anyC_val {n i : Nat} {o : Oper} {v : Value} {listed : Array Bool} {a : Act} {w w' : World} (hr : Region.ready md ops listed = [i]) (hi : ops[i]? = some o) (hw : Region.wanted o (yielded ops a.tmps) = true) (hC : C w)
    (hrun : (execOp a.eval o).run P w = .ok (.value v) w') (h : anyC P md ops N C n (listed.setIfInBounds i true) (a.put o.dst v) w') : anyC P md ops N C (n + 1) listed a w :=
  anyC_step hr hi hw hC fun K hK => by
    unfold Oper.wp
    rw [hrun]
    exact hK _ _ h
theorem anyC_done {listed : Array Bool} {a : Act} {w : World} (hr : Region.ready md ops listed = []) (hC : C w) (h : N a w) : anyC P md ops N C 0 listed a w := ⟨hC, hr, h⟩
end
theorem wp_region_heads {P : Program} {N : Act → World → Prop} {C : World → Prop} {Q : Exit → Act → World → Prop} {id : Nat} {a : Act} {w : World} {l : List Oper} (ks : List Nat) (hm : P.follows .mixedOrders = true)
    (hB : (Region.noSelect l.toArray && (decide (ks.length ≤ l.length) && headsB .any l.toArray ks (Array.replicate l.length false))) = true) (hC : C w.drew) (hN : ∀ a w, N a w → Q .normal a w)
    (h : wpQuiet P l.toArray C (fun a' => anyC P .any l.toArray N C (l.length - ks.length) (headsL ks (Array.replicate l.length false)) a' w.drew) (headOps l.toArray ks) a) : (Code.region id l.toArray true).wp P Q a w := by
  simp only [Bool.and_eq_true, decide_eq_true_eq] at hB
  obtain ⟨hs, hn, hB⟩ := hB
  refine wp_region_any hm (anyC_any (C := C) hN ?_)
  have := anyC_heads (P := P) (md := .any) (N := N) hs (l.length - ks.length) w.drew hC ks (Array.replicate l.length false) a hB h
  rw [show l.length - ks.length + ks.length = l.length by omega] at this
  rw [List.size_toArray]
  exact this
end Go.Proofs.YtmbifmmkccghfaaGreat
namespace Go.Proofs.YtmbifmmkccghfaaGreat
open Go.RowKit
section
variable {P : Program} {ops : Array Oper} {md : Region.Mode} {N : Act → World → Prop} {C : World → Prop}
theorem wpOp_call {i : Nat} {o : Oper} {f : FuncId} {args : Array Value} {a : Act} {w : World} {K : Act → World → Prop} (hi : ops[i]? = some o) (hw : Region.wanted o (yielded ops a.tmps) = true)
    (hrun : (execOp a.eval o).run P w = .ok (.enter f args) w) (h : Calls P f args w fun e w' => ∃ v, e = .returned v ∧ K (a.put o.dst v) w') : wpOp P ops (Nrm N) i K a w := by
  unfold wpOp
  simp only [hi, hw, if_true]
  refine .inl ?_
  unfold Oper.wp
  rw [hrun]
  exact Calls.mono h fun e w' ⟨v, he, hk⟩ => by subst he; exact hk
theorem wpOp_val {i : Nat} {o : Oper} {v : Value} {a : Act} {w w' : World} {K : Act → World → Prop} (hi : ops[i]? = some o) (hw : Region.wanted o (yielded ops a.tmps) = true)
    (hrun : (execOp a.eval o).run P w = .ok (.value v) w') (h : K (a.put o.dst v) w') : wpOp P ops (Nrm N) i K a w := by
  unfold wpOp
  simp only [hi, hw, if_true]
  refine .inl ?_
  unfold Oper.wp
  rw [hrun]
  exact h
theorem anyC_store {n i : Nat} {o : Oper} {listed : Array Bool} {a : Act} {w w' : World} (hr : Region.ready md ops listed = [i]) (hi : ops[i]? = some o) (hw : Region.wanted o (yielded ops a.tmps) = true) (hC : C w)
    (hrun : (execOp a.eval o).run P w = .ok .skip w') (h : anyC P md ops N C n (listed.setIfInBounds i true) (a.put o.dst undef) w') : anyC P md ops N C (n + 1) listed a w :=
  anyC_step hr hi hw hC fun K hK => by
    unfold Oper.wp
    rw [hrun]
    exact hK _ _ h
theorem wpOp_callD {i : Nat} {o : Oper} {f : FuncId} {args : Array Value} {a : Act} {w : World} {K : Act → World → Prop} (d : Option Tmp) (hi : ops[i]? = some o) (hd : o.dst = d) (hw : Region.wanted o (yielded ops a.tmps) = true)
    (hrun : (execOp a.eval o).run P w = .ok (.enter f args) w) (h : Calls P f args w fun e w' => ∃ v, e = .returned v ∧ K (a.put d v) w') : wpOp P ops (Nrm N) i K a w := by
  subst hd
  exact wpOp_call hi hw hrun h
theorem wpOp_valD {i : Nat} {o : Oper} {v : Value} {a : Act} {w w' : World} {K : Act → World → Prop} (d : Option Tmp) (hi : ops[i]? = some o) (hd : o.dst = d) (hw : Region.wanted o (yielded ops a.tmps) = true)
    (hrun : (execOp a.eval o).run P w = .ok (.value v) w') (h : K (a.put d v) w') : wpOp P ops (Nrm N) i K a w := by
  subst hd
  exact wpOp_val hi hw hrun h
theorem anyC_callD {n i : Nat} {o : Oper} {f : FuncId} {args : Array Value} {listed : Array Bool} {a : Act} {w : World} (d : Option Tmp) (hr : Region.ready md ops listed = [i]) (hi : ops[i]? = some o) (hd : o.dst = d) (hw : Region.wanted o (yielded ops a.tmps) = true) (hC : C w)
    (hrun : (execOp a.eval o).run P w = .ok (.enter f args) w) (h : Calls P f args w fun e w' => ∃ v, e = .returned v ∧ anyC P md ops N C n (listed.setIfInBounds i true) (a.put d v) w') : anyC P md ops N C (n + 1) listed a w := by
  subst hd
  exact anyC_call hr hi hw hC hrun h
theorem anyC_valD {n i : Nat} {o : Oper} {v : Value} {listed : Array Bool} {a : Act} {w w' : World} (d : Option Tmp) (hr : Region.ready md ops listed = [i]) (hi : ops[i]? = some o) (hd : o.dst = d) (hw : Region.wanted o (yielded ops a.tmps) = true) (hC : C w)
    (hrun : (execOp a.eval o).run P w = .ok (.value v) w') (h : anyC P md ops N C n (listed.setIfInBounds i true) (a.put d v) w') : anyC P md ops N C (n + 1) listed a w := by
  subst hd
  exact anyC_val hr hi hw hC hrun h
theorem anyC_storeN {n i : Nat} {o : Oper} {listed : Array Bool} {a : Act} {w w' : World} (hr : Region.ready md ops listed = [i]) (hi : ops[i]? = some o) (hd : o.dst = none) (hw : Region.wanted o (yielded ops a.tmps) = true) (hC : C w)
    (hrun : (execOp a.eval o).run P w = .ok .skip w') (h : anyC P md ops N C n (listed.setIfInBounds i true) a w') : anyC P md ops N C (n + 1) listed a w := by
  refine anyC_store hr hi hw hC hrun ?_
  rw [hd]
  exact h
end
end Go.Proofs.YtmbifmmkccghfaaGreat
namespace Go.Proofs.YtmbifmmkccghfaaGreat
open Go.RowKit
set_option linter.unusedVariables false
section
variable {P : Program} {ops : Array Oper} {md : Region.Mode} {N : Act → World → Prop} {C : World → Prop} {l₀ m : Nat}
end
def valN : Op → Bool
  | .nilCheck _ => true
  | o => valOp o
theorem onlyV_bind {P : Program} {α : Type} {s : Sem α} {f : α → Sem Next} (hf : ∀ x w n w', (f x).run P w = .ok n w' → ∃ u, n = .value u) (w : World) (n : Next) (w' : World) (h : (s >>= f).run P w = .ok n w') : ∃ u, n = .value u := by
  rw [Sem.run_bind] at h
  generalize s.run P w = r at h
  rcases r with ⟨x, w1⟩ | ⟨x, w1⟩
  · exact hf _ _ _ _ h
  · cases h
theorem onlyV_pure {P : Program} (v : Value) (w : World) (n : Next) (w' : World) (h : (pure (Next.value v) : Sem Next).run P w = .ok n w') : ∃ u, n = .value u := by
  simp only [Sem.run_pure, Result.ok.injEq] at h
  exact ⟨_, h.1.symm⟩
theorem onlyV_nil {P : Program} {x : Operand} {d : Option Tmp} {t : TypeId} {pos : String} {af : Array Edge} {g : Option (Nat × Bool)} {ρ : Operand → Value} {w w' : World} {n : Next} (h : (execOp ρ ⟨d, .nilCheck x, t, pos, af, g⟩).run P w = .ok n w') : ∃ u, n = .value u := by
  unfold execOp at h
  dsimp only at h
  split at h
  · cases h
  · cases h
  · cases h
  · split at h
    · cases h
    · refine onlyV_bind (fun x w n w' h => onlyV_bind (fun b w n w' h => ?_) w n w' h) w n w' h
      split at h
      · exact onlyV_bind (fun _ => onlyV_pure _) _ _ _ h
      · first | exact onlyV_pure _ _ _ _ h | exact onlyV_bind (fun _ => onlyV_pure _) _ _ _ h
    · exact onlyV_pure _ _ _ _ h
  · exact onlyV_pure _ _ _ _ h
theorem valN_value {P : Program} {o : Oper} (ho : valN o.op = true) {ρ : Operand → Value} {w w' : World} {n : Next} (h : (execOp ρ o).run P w = .ok n w') : ∃ u, n = .value u := by
  by_cases hv : valOp o.op = true
  · exact valOp_value hv h
  · obtain ⟨dst, op, type, pos, after, guard⟩ := o
    cases op <;> first | (exact absurd ho hv) | exact onlyV_nil h
end Go.Proofs.YtmbifmmkccghfaaGreat
namespace Go.Proofs.YtmbifmmkccghfaaGreat
open Go.RowKit
section
variable {P : Program} {ops : Array Oper} {md : Region.Mode} {N : Act → World → Prop} {C : World → Prop} {l₀ m : Nat}
end
end Go.Proofs.YtmbifmmkccghfaaGreat
namespace Go.Proofs.YtmbifmmkccghfaaGreat
open Go.RowKit
def valM : Op → Bool
  | .call c => match c.callee with | .builtin .len => true | _ => false
  | o => valN o
theorem valM_value {P : Program} {o : Oper} (ho : valM o.op = true) {ρ : Operand → Value} {w w' : World} {n : Next} (h : (execOp ρ o).run P w = .ok n w') : ∃ u, n = .value u := by
  by_cases hv : valN o.op = true
  · exact valN_value hv h
  · obtain ⟨dst, op, type, pos, after, guard⟩ := o
    cases op
    case call c =>
      obtain ⟨callee, args, ats⟩ := c
      cases callee
      case builtin b =>
        cases b
        case len =>
          simp only [execOp, resolve, invoke, builtin, Sem.run_bind, Sem.run_pure, Result.andThen_ok] at h
          generalize (Builtin.len_ _ _ _).run P w = r at h
          rcases r with ⟨x, w1⟩ | ⟨x, w1⟩
          · simp only [Result.andThen_ok, Sem.run_pure, Result.ok.injEq] at h
            exact ⟨x, h.1.symm⟩
          · cases h
        all_goals cases ho
      all_goals cases ho
    all_goals exact absurd ho hv
theorem yieldsM_of {P : Program} {ops : Array Oper} {C : World → Prop} {o : Oper} (ho : valM o.op = true) {a : Act} {v : Value} (hw : Region.wanted o (yielded ops a.tmps) = true) (h : ∀ w, C w → o.quietAt P a C w v) : YieldsC P ops C o v a := by
  refine .inl ⟨hw, fun w hC => ?_⟩
  have h1 := h w hC
  unfold Oper.quietAt at h1
  generalize hr : (execOp a.eval o).run P w = r at h1 ⊢
  rcases r with ⟨n, w'⟩ | ⟨x, w'⟩
  · obtain ⟨u, rfl⟩ := valM_value ho hr
    obtain ⟨rfl, rfl⟩ := h1
    rfl
  · cases h1
def headsM (md : Region.Mode) (ops : Array Oper) : List Nat → Array Bool → Bool
  | [], _ => true
  | k :: ks, listed => (Region.ready md ops listed).contains k && (Region.free md ops listed k && ((match ops[k]? with | some o => valM o.op | none => false) && headsM md ops ks (listed.setIfInBounds k true)))
section
variable {P : Program} {ops : Array Oper} {md : Region.Mode} {N : Act → World → Prop} {Q : Exit → Act → World → Prop} {C : World → Prop}
end
end Go.Proofs.YtmbifmmkccghfaaGreat
namespace Go.Proofs.YtmbifmmkccghfaaGreat
open Go.RowKit
section
variable {P : Program} {ops : Array Oper} {md : Region.Mode} {N : Act → World → Prop} {C : World → Prop}
theorem anyC_headsM (hs : Region.noSelect ops = true) (n : Nat) (w : World) (hC : C w) : ∀ (ks : List Nat) (listed : Array Bool) (a : Act),
    headsM md ops ks listed = true → wpQuiet P ops C (fun a' => anyC P md ops N C n (headsL ks listed) a' w) (headOps ops ks) a → anyC P md ops N C (n + ks.length) listed a w
  | [], _, _, _, h => h
  | k :: ks, listed, a, hB, h => by
    cases h0 : ops[k]? with
    | none => simp [headsM, h0] at hB
    | some o =>
    simp only [headsM, Bool.and_eq_true, h0] at hB
    obtain ⟨hr, hf, hv, hB⟩ := hB
    rw [headOps, List.filterMap_cons, h0] at h
    unfold wpQuiet at h
    by_cases hw : Region.wanted o (yielded ops a.tmps) = true
    · rw [if_pos hw] at h
      obtain ⟨v, h1, h2⟩ := h
      exact anyC_first h0 (Region.noSelect_spec hs) (n + ks.length) listed a w (Region.free_spec h0 hf) (by simpa using hr) (yieldsM_of hv hw h1) (anyC_headsM hs n w hC ks _ _ hB h2)
    · rw [if_neg hw] at h
      exact anyC_first h0 (Region.noSelect_spec hs) (n + ks.length) listed a w (Region.free_spec h0 hf) (by simpa using hr) (.inr ⟨by simpa using hw, rfl⟩) (anyC_headsM hs n w hC ks _ _ hB h)
theorem anyC_skipD {n i : Nat} {o : Oper} {listed : Array Bool} {a : Act} {w : World} (d : Option Tmp) (hr : Region.ready md ops listed = [i]) (hi : ops[i]? = some o) (hd : o.dst = d) (hw : Region.wanted o (yielded ops a.tmps) = false) (hC : C w)
    (h : anyC P md ops N C n (listed.setIfInBounds i true) (a.put d undef) w) : anyC P md ops N C (n + 1) listed a w := by
  subst hd
  exact anyC_skip hr hi hw hC h
theorem wp_region_headsM {Q : Exit → Act → World → Prop} {id : Nat} {a : Act} {w : World} {l : List Oper} (ks : List Nat) (hm : P.follows .mixedOrders = true)
    (hB : (Region.noSelect l.toArray && (decide (ks.length ≤ l.length) && headsM .any l.toArray ks (Array.replicate l.length false))) = true) (hC : C w.drew) (hN : ∀ a w, N a w → Q .normal a w)
    (h : wpQuiet P l.toArray C (fun a' => anyC P .any l.toArray N C (l.length - ks.length) (headsL ks (Array.replicate l.length false)) a' w.drew) (headOps l.toArray ks) a) : (Code.region id l.toArray true).wp P Q a w := by
  simp only [Bool.and_eq_true, decide_eq_true_eq] at hB
  obtain ⟨hs, hn, hB⟩ := hB
  refine wp_region_any hm (anyC_any (C := C) hN ?_)
  have := anyC_headsM (P := P) (md := .any) (N := N) hs (l.length - ks.length) w.drew hC ks (Array.replicate l.length false) a hB h
  rw [show l.length - ks.length + ks.length = l.length by omega] at this
  rw [List.size_toArray]
  exact this
end
end Go.Proofs.YtmbifmmkccghfaaGreat
