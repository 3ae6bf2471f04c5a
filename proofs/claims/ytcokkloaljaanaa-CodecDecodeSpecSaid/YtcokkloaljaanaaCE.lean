/-
  Contracts of Depth and Check of the reference. No condition.
-/
import Derived.Test.YtcokkloaljaanaaCD
namespace Go.Proofs.Ytcokkloaljaanaa
open Go.RowKit

def DepthR (d : Nat) : Prop := ∀ (x : Val) (L : Value) (w : World), ValsAt w w.heap.size d L x.elems →
    Calls Try.prog 30 #[x.v L] w fun e w' => e = .returned (.int .i64 x.depth) ∧ Below w.heap.size w w'
theorem depth_list {n : Int} {s : List UInt8} {l : List Val} : (Val.mk 3 n s l).depth = depthL l + 1 := by rw [Val.depth, if_pos rfl]

set_option maxRecDepth 100000 in
set_option maxHeartbeats 2000000 in
theorem rDepth_leaf (k n : Int) (b : ByteArray) (A : Option Addr) (m c : Nat) (w : World) (h : ¬ k = 3) :
    Calls Try.prog 30 #[.agg #[.int .i64 k, .int .i64 n, .string b, .slice A m c]] w fun e w' => e = .returned (.int .i64 0) ∧ Below w.heap.size w w' := by
  go_enter Try.func30, Try.ntmps30
  go_wp2
  all_goals
    go_ret
    exact ⟨rfl, (Below.refl _ _).alloc (Nat.le_refl _) _⟩

set_option maxRecDepth 100000 in
set_option maxHeartbeats 4000000 in
theorem rDepth_3 (d : Nat) (hd : d ≤ 1000) (ih : ∀ d', d' < d → DepthR d') (m : Int) (z : ByteArray) (l : List Val) (A : Option Addr) (c : Nat) (w : World) (hV : ValsAt w w.heap.size d (.slice A l.length c) l) (rb : Int) (hr : Hid (((depthL l + 1 : Nat) : Int) = rb)) :
    Calls Try.prog 30 #[.agg #[.int .i64 3, .int .i64 m, .string z, .slice A l.length c]] w fun e w' => e = .returned (.int .i64 rb) ∧ Below w.heap.size w w' := by
  obtain ⟨_, _, _, hm⟩ := hV.form
  unfold maxLen at hm
  obtain ⟨n, hn⟩ : ∃ n, l.length = n := ⟨_, rfl⟩
  rw [hn] at hm hV ⊢
  have HN := Lib.hid hn
  have HV := Lib.hid hV
  have IH := Lib.hid ih
  have hB := (Below.refl w.heap.size w).alloc (Nat.le_refl _) (.cells #[.int .i64 3, .int .i64 m, .string z, .slice A n c] 24)
  have X := Box.new w [.int .i64 3, .int .i64 m, .string z, .slice A n c] 24
  clear hn hV ih
  go_enter Try.func30, Try.ntmps30
  go_wp2
  go_loopw [3, 4] (fun dep i wr => ∃ k : Nat, k ≤ n ∧ i = .int .i64 k ∧ dep = .int .i64 (depthL (l.take k)) ∧ Below w.heap.size w wr ∧ Box wr w.heap.size [.int .i64 3, .int .i64 m, .string z, .slice A n c]) (fun _ i _ => n - (intOf i).toNat)
  case atStart => exact ⟨0, Nat.zero_le _, rfl, by simp [depthL], hB, X⟩
  case round =>
    clear hB X
    obtain ⟨k, hk, rfl, rfl, hB, X⟩ := hrel
    have hnest := HV.out.depths k
    have x3 : wr.cell? ⟨w.heap.size, 3, none⟩ = some (.slice A n c) := X.cell 3
    have xz := X.lt
    by_cases hlt : k < n
    · have hlt' : k < l.length := by rw [HN.out]; exact hlt
      obtain ⟨d', b, off, V, rfl, rfl, hb, c0, c1, c2, c3, hE⟩ := HV.out.elem hlt'
      have htk := List.take_succ_eq_append_getElem hlt'
      generalize l[k] = x at c0 c1 c2 c3 hE htk
      obtain ⟨xk, xn, xs, xl⟩ := x
      have hxl := hE.depth
      obtain ⟨A', c', rfl, _⟩ := hE.form
      dsimp only [Val.kind, Val.num, Val.str, Val.elems] at c0 c1 c2 c3 hE
      replace c0 := (hB.cell (p := ⟨b, off + k * 4, none⟩) hb).trans c0
      replace c1 := (hB.cell (p := ⟨b, off + k * 4 + 1, none⟩) hb).trans c1
      replace c2 := (hB.cell (p := ⟨b, off + k * 4 + 2, none⟩) hb).trans c2
      replace c3 := (hB.cell (p := ⟨b, off + k * 4 + 3, none⟩) hb).trans c3
      have HE := Lib.hid ((hE.below hB).more hB.size)
      obtain ⟨xd, hxd⟩ : ∃ xd, (Val.mk xk xn xs xl).depth = xd := ⟨_, rfl⟩
      have HD := Lib.hid (show depthL (l.take (k + 1)) = max (depthL (l.take k)) xd by rw [htk, depthL_snoc, hxd])
      rw [hxd] at hxl
      have HC := Lib.hid hxd
      clear hE htk hxd
      generalize depthL (l.take k) = dl at hnest HD
      go_wp2_with fail
      refine (IH.out d' (by omega) (.mk xk xn xs xl) _ _ HE.out).mono ?_
      rw [HC.out]
      rintro e w1 ⟨rfl, hb1⟩
      have hB' := hB.trans (hb1.mono hB.size)
      have X' := X.later hb1
      clear hb1 hB X x3 xz c0 c1 c2 c3
      go_wp2
      all_goals
        refine ⟨⟨k + 1, by omega, by go_num, ?_, hB', X'⟩, by simp [intOf]; omega⟩
        rw [HD.out]
        first
          | rfl
          | (congr 1; omega)
    · obtain rfl : k = n := by omega
      have hfull : l.take k = l := List.take_of_length_le (by rw [HN.out]; exact Nat.le_refl _)
      rw [hfull] at hnest ⊢
      have e : rb = (depthL l : Int) + 1 := by rw [← hr.out]; omega
      have HF := Lib.hid e
      clear hfull e
      generalize depthL l = dl at hnest HF ⊢
      go_wp2
      go_ret
      exact ⟨by rw [HF.out]; rfl, hB⟩

theorem DepthR.all (d : Nat) (hd : d ≤ 1000) : DepthR d := by
  induction d using Nat.strongRecOn with
  | _ d ih =>
    intro x L w hV
    obtain ⟨k, n, s, l⟩ := x
    obtain ⟨A, c, rfl, hm⟩ := hV.form
    dsimp only [Val.elems] at hV hm
    dsimp only [Val.v, Val.kind, Val.num, Val.str]
    by_cases h3 : k = 3
    · subst h3
      rw [depth_list]
      exact rDepth_3 d hd (fun d' hd' => ih d' hd' (by omega)) n _ l A c w hV _ (Lib.hid rfl)
    · rw [Val.depth, if_neg h3]
      exact rDepth_leaf k n _ A _ c w h3

set_option maxHeartbeats 1000000 in
theorem rCheck_any (d : Nat) (hd : d ≤ 1000) (x : Val) (L : Value) (w : World) (hV : ValsAt w w.heap.size d L x.elems) :
    Calls Try.prog 17 #[x.v L] w fun e w' => e = .returned (.int .i64 (chkT x)) ∧ Below w.heap.size w w' := by
  obtain ⟨A, c, rfl, hm⟩ := hV.form
  have hst := (Below.refl w.heap.size w).alloc (Nat.le_refl _) (.cells #[.int .i64 x.kind, .int .i64 x.num, .string (strB x.str), .slice A x.elems.length c] 24)
  have HF := Lib.hid (FormedR.all d x _ _ (hV.later hst))
  have HV := Lib.hid (hV.later hst)
  have HG := Lib.hid (fun w' (hb : Below (w.alloc (.cells #[.int .i64 x.kind, .int .i64 x.num, .string (strB x.str), .slice A x.elems.length c] 24)).heap.size (w.alloc (.cells #[.int .i64 x.kind, .int .i64 x.num, .string (strB x.str), .slice A x.elems.length c] 24)) w') => DepthR.all d hd x _ w' (HV.out.later hb))
  have X := Box.new w [.int .i64 x.kind, .int .i64 x.num, .string (strB x.str), .slice A x.elems.length c] 24
  have hdep := hV.depth
  have hst := Lib.hid hst
  clear hV HV
  dsimp only [Val.v] at HF hst HG X ⊢
  rcases hob : x.okB with _ | _
  · rw [hob] at HF
    rw [chk_no hob]
    clear hob hdep HG X
    generalize x.kind = k, x.num = n, strB x.str = s, x.elems.length = m at HF hst ⊢
    go_enter Try.func17, Try.ntmps17
    go_wp2_with fail
    refine HF.out.mono ?_
    rintro e w1 ⟨rfl, hb⟩
    go_wp2
    go_ret
    exact ⟨rfl, hst.out.trans (hb.mono (by simp))⟩
  · rw [hob] at HF
    by_cases h16 : 16 < x.depth
    · rw [chk_deep hob h16]
      clear hob
      generalize x.kind = k, x.num = n, strB x.str = s, x.elems.length = m, x.depth = dp at HF HG X hst h16 hdep ⊢
      go_enter Try.func17, Try.ntmps17
      go_wp2_with fail
      refine HF.out.mono ?_
      rintro e w1 ⟨rfl, hb⟩
      have X1 := X.later hb
      have x0 : w1.cell? ⟨w.heap.size, 0, none⟩ = some (.int .i64 k) := X1.cell 0
      have x1 : w1.cell? ⟨w.heap.size, 1, none⟩ = some (.int .i64 n) := X1.cell 1
      have x2 : w1.cell? ⟨w.heap.size, 2, none⟩ = some (.string s) := X1.cell 2
      have x3 : w1.cell? ⟨w.heap.size, 3, none⟩ = some (.slice A m c) := X1.cell 3
      go_wp2_with fail
      refine (HG.out _ hb).mono ?_
      rintro e w2 ⟨rfl, hb2⟩
      have hB := hst.out.trans ((hb.trans (hb2.mono hb.size)).mono (by simp))
      clear x0 x1 x2 x3 X1 X hb hb2
      go_wp2
      go_ret
      exact ⟨rfl, hB⟩
    · rw [chk_ok hob h16]
      clear hob
      generalize x.kind = k, x.num = n, strB x.str = s, x.elems.length = m, x.depth = dp at HF HG X hst h16 hdep ⊢
      go_enter Try.func17, Try.ntmps17
      go_wp2_with fail
      refine HF.out.mono ?_
      rintro e w1 ⟨rfl, hb⟩
      have X1 := X.later hb
      have x0 : w1.cell? ⟨w.heap.size, 0, none⟩ = some (.int .i64 k) := X1.cell 0
      have x1 : w1.cell? ⟨w.heap.size, 1, none⟩ = some (.int .i64 n) := X1.cell 1
      have x2 : w1.cell? ⟨w.heap.size, 2, none⟩ = some (.string s) := X1.cell 2
      have x3 : w1.cell? ⟨w.heap.size, 3, none⟩ = some (.slice A m c) := X1.cell 3
      go_wp2_with fail
      refine (HG.out _ hb).mono ?_
      rintro e w2 ⟨rfl, hb2⟩
      have hB := hst.out.trans ((hb.trans (hb2.mono hb.size)).mono (by simp))
      clear x0 x1 x2 x3 X1 X hb hb2
      go_wp2
      go_ret
      exact ⟨rfl, hB⟩

end Go.Proofs.Ytcokkloaljaanaa
