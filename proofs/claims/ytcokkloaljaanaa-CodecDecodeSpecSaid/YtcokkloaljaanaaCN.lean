/-
  Encodings as data, and contracts of newWriter and of its closures for numbers and texts. No condition.
-/
import Derived.Test.YtcokkloaljaanaaCM
import Derived.Test.YtcokkloaljaanaaCJ
import Derived.Laws.EntriesVeiled
import Derived.RegionTactic
import Derived.BigRegion
import Derived.Deep.RegionHeld3
namespace Go.Proofs.Ytcokkloaljaanaa
open Go.RowKit
attribute [local go_sem ↓ high] app_named

mutual
/-- The encoding of a value. -/
def Val.enc : Val → Bs
  | .mk k n s l => if k = 1 then 1 :: numT (zig n) else if k = 2 then 2 :: (numT s.length ++ s) else 3 :: (numT l.length ++ encL l)
def encL : List Val → Bs
  | [] => []
  | x :: l => x.enc ++ encL l
end
theorem enc_1 {n : Int} {s : Bs} {l : List Val} : (Val.mk 1 n s l).enc = [1] ++ numT (zig n) := by rw [Val.enc, if_pos rfl]; rfl
theorem enc_2 {n : Int} {s : Bs} {l : List Val} : (Val.mk 2 n s l).enc = [2] ++ numT s.length ++ s := by rw [Val.enc, if_neg (by decide), if_pos rfl, List.append_assoc]; rfl
theorem enc_3 {n : Int} {s : Bs} {l : List Val} : (Val.mk 3 n s l).enc = [3] ++ numT l.length ++ encL l := by rw [Val.enc, if_neg (by decide), if_neg (by decide), List.append_assoc]; rfl
theorem encL_append (l m : List Val) : encL (l ++ m) = encL l ++ encL m := by
  induction l with
  | nil => rfl
  | cons x l ih => rw [List.cons_append, encL, encL, ih, List.append_assoc]
theorem encL_snoc (l : List Val) (x : Val) : encL (l ++ [x]) = encL l ++ x.enc := by rw [encL_append, encL, encL, List.append_nil]

/-- The writer: its cells in block pb, the variable that holds its pointer in block cb. -/
def Wtr (w : World) (pb cb : Nat) : Prop :=
  Box w pb [.nilFunc, .func (.func 37) #[] #[], .func (.func 40) #[] #[], .func (.func 41) #[] #[.pointer (some ⟨cb, 0, none⟩)]] ∧ Box w cb [.pointer (some ⟨pb, 0, none⟩)]
theorem Wtr.below {w w' : World} {pb cb B : Nat} (h : Wtr w pb cb) (h1 : pb < B) (h2 : cb < B) (hb : Below B w w') : Wtr w' pb cb := ⟨h.1.keep h1 hb, h.2.keep h2 hb⟩
theorem newWriter_any (w : World) : Calls Try.prog 26 #[] w fun e w' => e = .returned (.pointer (some ⟨w.heap.size, 0, none⟩)) ∧ Hid (Wtr w' w.heap.size (w.heap.size + 1)) ∧ Below w.heap.size w w' ∧ w.heap.size + 2 ≤ w'.heap.size := by
  go_enter Try.func26, Try.ntmps26
  go_wp2
  go_ret
  refine ⟨rfl, Lib.hid ⟨?_, ?_⟩, ((Below.refl _ _).alloc (Nat.le_refl _) _).alloc (by simp) _, by simp⟩
  · exact (Box.new w [.nilFunc, .func (.func 37) #[] #[], .func (.func 40) #[] #[], .func (.func 41) #[] #[.pointer (some ⟨w.heap.size + 1, 0, none⟩)]] _).alloc _
  · exact Box.newAt [.pointer (some ⟨w.heap.size, 0, none⟩)] _ (by simp)

set_option maxRecDepth 100000 in
set_option maxHeartbeats 4000000 in
theorem cW1_any (n : Int) (h1 : -9223372036854775808 ≤ n) (h2 : n ≤ 9223372036854775807) (sb : ByteArray) (A : Option Addr) (m c : Nat) (base : Nat) (v : Value) (l : Bs) (w : World) (ho : OwnBs w base v l) (hbase : base ≤ w.heap.size) (hl : l.length ≤ 90000000) :
    Calls Try.prog 37 #[v, .agg #[.int .i64 1, .int .i64 n, .string sb, .slice A m c]] w (RetApp (l ++ ([1] ++ numT (zig n))) base v w) := by
  have hst := (Below.refl w.heap.size w).alloc (Nat.le_refl _) (.cells #[.int .i64 1, .int .i64 n, .string sb, .slice A m c] 24)
  have hst2 := (hst.drew).alloc (by simp) (.cells #[.int .u8 1] 5)
  have X := Box.newAt (w := (w.alloc (.cells #[.int .i64 1, .int .i64 n, .string sb, .slice A m c] 24)).drew) (n := w.heap.size + 1) [.int .u8 1] 5 (by simp)
  obtain ⟨v', w', hr, hO, hg, hL⟩ := app_one 1 (ho.below hst2) X (Nat.le_trans hbase hst2.size) (by omega)
  have HN := Lib.hid (cNumeral_any (zig n) (zig_lt h1 h2) base v' (l ++ [1]) w' hO (Nat.le_trans hbase (Nat.le_trans hst2.size hg.size)) (by rw [List.length_append]; simp; omega))
  have HG := Lib.hid (grownBy_below hst2 hg)
  have HL := Lib.hid (hL.below hst2)
  have HH := Lib.hid (Nat.le_trans hst2.size hg.size)
  have hE : (l ++ [1]) ++ numT (zig n) = l ++ ([1] ++ numT (zig n)) := List.append_assoc _ _ _
  rw [hE] at HN
  generalize l ++ ([1] ++ numT (zig n)) = T at HN ⊢
  have R : (appF #[27, 27] 27 #[v, .slice (some ⟨w.heap.size + 1, 0, none⟩) 1 1]).run Try.prog ((w.alloc (.cells #[.int .i64 1, .int .i64 n, .string sb, .slice A m c] 24)).alloc (.cells #[.int .u8 1] 5)).drew = .ok v' w' := hr
  have Y := (Box.new w [.int .i64 1, .int .i64 n, .string sb, .slice A m c] 24).drew.alloc (.cells #[.int .u8 1] 5)
  have Y2 := Y.grown hg (fun e => by have := (ho.lt e.symm).2; omega)
  have y1 : w'.cell? ⟨w.heap.size, 1, none⟩ = some (.int .i64 n) := Y2.cell 1
  have yz : w.heap.size < w'.heap.size := Y2.lt
  have hne : Hid (some w.heap.size ≠ v'.ownBlock) := by
    rcases hL with h | ⟨g, h, hg2⟩
    · rw [Hid, h]
      exact fun e => by have := (ho.lt e.symm).2; omega
    · rw [Hid, h]
      intro e
      injection e with e
      simp at hg2
      omega
  clear hr hO hg hL hst hst2 X ho hE Y Y2
  go_enter Try.func37, Try.ntmps37
  go_wp2_with fail
  go_region_held3 (fun w' => w'.cell? ⟨w.heap.size, 1, none⟩ = some (.int .i64 n)) (go_keep) (first | (go_at_call 39; refine (cUnsigned_any n _ h1 h2).mono ?_; rintro e w9 ⟨rfl, rfl⟩) | (go_at_call 38; refine HN.out.mono ?_; rintro e w9 ⟨V, rfl, hOV, hGV, hLV⟩; have y9 := hGV.cell y1 hne.out))
  all_goals
    have HR : Hid (RetApp T base v w (.returned V) w9) := ⟨V, rfl, hOV, grownBy_trans HG.out HL.out hGV, HL.out.trans HH.out hLV⟩
    clear hOV hGV hLV HG HL HH R HN y9 y1
    go_wp2
    go_ret
    exact HR.out

set_option maxRecDepth 100000 in
set_option maxHeartbeats 4000000 in
theorem cW2_any (n : Int) (s : Bs) (hs : s.length ≤ 9223372036854775807) (A : Option Addr) (m c : Nat) (base : Nat) (v : Value) (l : Bs) (w : World) (ho : OwnBs w base v l) (hbase : base ≤ w.heap.size) (hl : l.length + s.length ≤ 90000000) :
    Calls Try.prog 40 #[v, .agg #[.int .i64 2, .int .i64 n, .string (strB s), .slice A m c]] w (RetApp (l ++ ([2] ++ numT s.length ++ s)) base v w) := by
  have hst := (Below.refl w.heap.size w).alloc (Nat.le_refl _) (.cells #[.int .i64 2, .int .i64 n, .string (strB s), .slice A m c] 24)
  have hst2 := (hst.drew).alloc (by simp) (.cells #[.int .u8 2] 5)
  have X := Box.newAt (w := (w.alloc (.cells #[.int .i64 2, .int .i64 n, .string (strB s), .slice A m c] 24)).drew) (n := w.heap.size + 1) [.int .u8 2] 5 (by simp)
  obtain ⟨v', w', hr, hO, hg, hL⟩ := app_one 2 (ho.below hst2) X (Nat.le_trans hbase hst2.size) (by omega)
  have HN := Lib.hid (cNumeral_any s.length (by omega) base v' (l ++ [2]) w' hO (Nat.le_trans hbase (Nat.le_trans hst2.size hg.size)) (by rw [List.length_append]; simp; omega))
  have HG := Lib.hid (grownBy_below hst2 hg)
  have HL := Lib.hid (hL.below hst2)
  have HH := Lib.hid (Nat.le_trans hst2.size hg.size)
  have R : (appF #[27, 27] 27 #[v, .slice (some ⟨w.heap.size + 1, 0, none⟩) 1 1]).run Try.prog ((w.alloc (.cells #[.int .i64 2, .int .i64 n, .string (strB s), .slice A m c] 24)).alloc (.cells #[.int .u8 2] 5)).drew = .ok v' w' := hr
  have Y := (Box.new w [.int .i64 2, .int .i64 n, .string (strB s), .slice A m c] 24).drew.alloc (.cells #[.int .u8 2] 5)
  have Y2 := Y.grown hg (fun e => by have := (ho.lt e.symm).2; omega)
  have y1 : w'.cell? ⟨w.heap.size, 2, none⟩ = some (.string (strB s)) := Y2.cell 2
  have yz : w.heap.size < w'.heap.size := Y2.lt
  have hne : Hid (some w.heap.size ≠ v'.ownBlock) := by
    rcases hL with h | ⟨g, h, hg2⟩
    · rw [Hid, h]
      exact fun e => by have := (ho.lt e.symm).2; omega
    · rw [Hid, h]
      intro e
      injection e with e
      simp at hg2
      omega
  have hE : ((l ++ [2]) ++ numT s.length) ++ s = l ++ ([2] ++ numT s.length ++ s) := by rw [List.append_assoc, List.append_assoc, List.append_assoc]
  have HE := Lib.hid hE
  have hll : ((l ++ [2]) ++ numT s.length).length + s.length ≤ 1000000000 := by
    have := numT_le (u := s.length) (by omega)
    simp only [List.length_append, List.length_singleton]
    omega
  have HLL := Lib.hid hll
  have hsz : (strB s).size = s.length := rfl
  have HSZ := Lib.hid hsz
  have hsz2 : (strB s).size ≤ 9223372036854775807 := by rw [hsz]; omega
  rw [← hsz] at HN
  have hap : ∀ V w9, Hid (w9.heap.size ≥ w'.heap.size) → OwnBs w9 base V ((l ++ [2]) ++ numT s.length) → ∃ v2 w10, (appF #[27, 9] 27 #[V, .string (strB s)]).run Try.prog w9 = .ok v2 w10 ∧ OwnBs w10 base v2 (l ++ ([2] ++ numT s.length ++ s)) ∧ w9.grownBy w10 V.ownBlock ∧ Lies w9 V v2 := by
    intro V w9 hz hO9
    rw [← HE.out]
    exact app_str hO9 (Nat.le_trans hbase (Nat.le_trans HH.out hz.out)) HLL.out
  have HAP := Lib.hid hap
  clear hap hr hO hg hL hst hst2 X hE Y Y2 hll HLL HE hsz
  generalize hT : l ++ ([2] ++ numT s.length ++ s) = T at HAP ⊢
  clear hT
  rw [HSZ.out] at HN
  generalize l ++ [2] ++ numT s.length = T1 at HN HAP
  rw [← HSZ.out] at HN
  clear HSZ
  generalize strB s = sb at R y1 HAP HN hsz2 ⊢
  go_enter Try.func40, Try.ntmps40
  go_wp2_with fail
  have hwr : IntKind.u64.wrap (sb.size : Int) = (sb.size : Int) := by rw [wrap_u64']; omega
  go_region_held3 (fun w' => w'.cell? ⟨w.heap.size, 2, none⟩ = some (.string sb)) (go_keep) (((go_at_call 38; (with_reducible refine HN.out.mono ?_); rintro e w9 ⟨V, rfl, hOV, hGV, hLV⟩; obtain ⟨v2, w10, hr2, hO2, hG2, hL2⟩ := HAP.out V w9 hGV.size hOV; have y9 := hGV.cell y1 hne.out; have hne9 : Hid (some w.heap.size ≠ V.ownBlock) := (by rcases hLV with h | ⟨g, h, hg9⟩ <;> rw [Hid, h]; exact hne.out; exact fun e => by injection e with e; omega); have y10 := hG2.cell y9 hne9.out)))
  all_goals
    have HR : Hid (RetApp T base v w (.returned v2) w10) := ⟨v2, rfl, hO2, grownBy_trans HG.out HL.out (grownBy_trans hGV hLV hG2), HL.out.trans HH.out (hLV.trans hGV.size hL2)⟩
    clear hOV hGV hLV HG HL HH R HN y9 y1 hr2 hO2 hG2 hL2 y10 HAP
    go_wp2
    go_ret
    exact HR.out

end Go.Proofs.Ytcokkloaljaanaa
