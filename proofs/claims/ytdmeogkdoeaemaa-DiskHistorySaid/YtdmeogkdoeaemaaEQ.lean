/-
  The law DiskTogether: the ways that return early. (Printed by gen_eq.py.)
-/
import Derived.Test.YtdmeogkdoeaemaaEG
import Derived.Test.YtdmeogkdoeaemaaEO
import Derived.Test.YtdmeogkdoeaemaaEP
namespace Go.Proofs.Ytdmeogkdoeaemaa
open Go.RowKit
attribute [local go_sem ↓ high] app_named cop_named

theorem acs_later {w w' : World} {L : List Nat} {v : Value} {l : List Ac} (h : Hid (AcsAt w (Out L) v l)) (hb : Below w.heap.size w w') : Hid (AcsAt w' (Out L) v l) := Lib.hid (h.out.keep (Keeps.of hb))
theorem bs_lit {S : Nat → Prop} (w : World) (c : UInt8) (t : TypeId) (hS : S w.heap.size) : BsAt (w.alloc (.cells #[.int .u8 (c.toNat : Int)] t)) S (.slice (some ⟨w.heap.size, 0, none⟩) 1 1) [c] := by
  have h := Box.new w [.int .u8 (c.toNat : Int)] t
  refine ⟨.inr ⟨_, _, _, rfl, Nat.le_refl _, by simp [maxLen]⟩, _, _, rfl, by simp [maxLen], fun i hi => ⟨_, 0, rfl, hS, h.lt, fun j hj => ?_⟩⟩
  obtain rfl : i = 0 := by simpa using hi
  obtain rfl : j = 0 := by omega
  exact h.cell 0
theorem acs_more {w : World} {L : List Nat} {v : Value} {l : List Ac} {a : Nat} (ha : w.heap.size ≤ a) (h : Hid (AcsAt w (Out L) v l)) : Hid (AcsAt w (Out (a :: L)) v l) := Lib.hid (h.out.weak fun c hb hl hc => by
  rcases List.mem_cons.1 hc with rfl | hc
  · omega
  · exact hb hc)
theorem acs_set {w : World} {L : List Nat} {v : Value} {l : List Ac} {a : Nat} (ha : a ∈ L) (h : Hid (AcsAt w (Out L) v l)) (o : Nat) (u : Value) : Hid (AcsAt (w.setCell ⟨a, o, none⟩ u) (Out L) v l) := Lib.hid (h.out.keep (Keeps.set w (a := ⟨a, o, none⟩) (fun hc => hc ha) u))

set_option maxRecDepth 100000 in
set_option maxHeartbeats 8000000 in
theorem lawT_1 (d : Dk) (As : Option Addr) (ns : Nat) (cs : Nat) (Ap : Option Addr) (np : Nat) (cp : Nat) (dl : Int) (ds : Bool) (w : World) (hD : Hid (DkAt w (Out []) (.slice As ns cs) (.slice Ap np cp) d)) (hd : Hid (DkIs d dl ds)) (hsm : Hid d.small) (Av : Option Addr) (n cv : Nat) (sc : List Ac) (hA : Hid (AcsAt w (Out []) (.slice Av n cv) sc)) (hf : Hid (fewB d = false)) : Calls Try.prog 8 #[.agg #[.slice As ns cs, .slice Ap np cp, .int .i64 dl, .bool ds], .slice Av n cv] w (fun e w' => e = .returned (.bool true) ∧ Below w.heap.size w w') := by
  have hB := Below.refl w.heap.size w
  have hL := InW.nil w
  go_enter Try.func8, Try.ntmps8
  go_wp2_with fail
  have hst := (Below.refl w.heap.size w).alloc (Nat.le_refl _) (.cells #[.slice As ns cs, .slice Ap np cp, .int .i64 dl, .bool ds] 25)
  replace hD := dk_later hD hst
  replace hA := acs_later hA hst
  replace hL := hL.later hst.size
  replace hB := hB.trans (hst.mono hB.size)
  have X0 := Box.new w [.slice As ns cs, .slice Ap np cp, .int .i64 dl, .bool ds] 25
  have hzX0 : Hid ((w.alloc (.cells #[.slice As ns cs, .slice Ap np cp, .int .i64 dl, .bool ds] 25)).heap.size = w.heap.size + 1) := Lib.hid (by simp)
  clear hst
  generalize w.alloc (.cells #[.slice As ns cs, .slice Ap np cp, .int .i64 dl, .bool ds] 25) = w1 at hB hL hzX0 X0 hD hA ⊢
  generalize hga : w.heap.size = X0a at hzX0 X0 ⊢
  clear hga
  refine (dSane_any _).mono ?_
  rintro e w2 ⟨rfl, hb⟩
  replace X0 := X0.later hb
  replace hD := dk_later hD hb
  replace hA := acs_later hA hb
  replace hB := hB.trans (hb.mono hB.size)
  replace hL := hL.later hb.size
  clear hb
  clear hzX0
  have X0c0 : w2.cell? ⟨X0a, 0, none⟩ = some (.slice As ns cs) := X0.cell 0
  have X0c1 : w2.cell? ⟨X0a, 1, none⟩ = some (.slice Ap np cp) := X0.cell 1
  have X0c2 : w2.cell? ⟨X0a, 2, none⟩ = some (.int .i64 dl) := X0.cell 2
  have X0c3 : w2.cell? ⟨X0a, 3, none⟩ = some (.bool ds) := X0.cell 3
  have X0z : X0a < w2.heap.size := X0.lt
  go_wp2_with fail
  clear X0c0 X0c1 X0c2 X0c3 X0z
  refine (dFew_is hD hd.out hsm hf).mono ?_
  rintro e w3 ⟨rfl, hb⟩
  replace X0 := X0.later hb
  replace hD := dk_later hD hb
  replace hA := acs_later hA hb
  replace hB := hB.trans (hb.mono hB.size)
  replace hL := hL.later hb.size
  clear hb
  have X0c0 : w3.cell? ⟨X0a, 0, none⟩ = some (.slice As ns cs) := X0.cell 0
  have X0c1 : w3.cell? ⟨X0a, 1, none⟩ = some (.slice Ap np cp) := X0.cell 1
  have X0c2 : w3.cell? ⟨X0a, 2, none⟩ = some (.int .i64 dl) := X0.cell 2
  have X0c3 : w3.cell? ⟨X0a, 3, none⟩ = some (.bool ds) := X0.cell 3
  have X0z : X0a < w3.heap.size := X0.lt
  go_wp2
  go_ret
  exact ⟨rfl, hB⟩

set_option maxRecDepth 100000 in
set_option maxHeartbeats 8000000 in
theorem lawT_2 (d : Dk) (As : Option Addr) (ns : Nat) (cs : Nat) (Ap : Option Addr) (np : Nat) (cp : Nat) (dl : Int) (ds : Bool) (w : World) (hD : Hid (DkAt w (Out []) (.slice As ns cs) (.slice Ap np cp) d)) (hd : Hid (DkIs d dl ds)) (hsm : Hid d.small) (Av : Option Addr) (n cv : Nat) (sc : List Ac) (hA : Hid (AcsAt w (Out []) (.slice Av n cv) sc)) (hf : Hid (fewB d = true)) (hn : 20 < n) (hn2 : n ≤ 9223372036854775807) : Calls Try.prog 8 #[.agg #[.slice As ns cs, .slice Ap np cp, .int .i64 dl, .bool ds], .slice Av n cv] w (fun e w' => e = .returned (.bool true) ∧ Below w.heap.size w w') := by
  have hB := Below.refl w.heap.size w
  have hL := InW.nil w
  go_enter Try.func8, Try.ntmps8
  go_wp2_with fail
  have hst := (Below.refl w.heap.size w).alloc (Nat.le_refl _) (.cells #[.slice As ns cs, .slice Ap np cp, .int .i64 dl, .bool ds] 25)
  replace hD := dk_later hD hst
  replace hA := acs_later hA hst
  replace hL := hL.later hst.size
  replace hB := hB.trans (hst.mono hB.size)
  have X0 := Box.new w [.slice As ns cs, .slice Ap np cp, .int .i64 dl, .bool ds] 25
  have hzX0 : Hid ((w.alloc (.cells #[.slice As ns cs, .slice Ap np cp, .int .i64 dl, .bool ds] 25)).heap.size = w.heap.size + 1) := Lib.hid (by simp)
  clear hst
  generalize w.alloc (.cells #[.slice As ns cs, .slice Ap np cp, .int .i64 dl, .bool ds] 25) = w1 at hB hL hzX0 X0 hD hA ⊢
  generalize hga : w.heap.size = X0a at hzX0 X0 ⊢
  clear hga
  refine (dSane_any _).mono ?_
  rintro e w2 ⟨rfl, hb⟩
  replace X0 := X0.later hb
  replace hD := dk_later hD hb
  replace hA := acs_later hA hb
  replace hB := hB.trans (hb.mono hB.size)
  replace hL := hL.later hb.size
  clear hb
  clear hzX0
  have X0c0 : w2.cell? ⟨X0a, 0, none⟩ = some (.slice As ns cs) := X0.cell 0
  have X0c1 : w2.cell? ⟨X0a, 1, none⟩ = some (.slice Ap np cp) := X0.cell 1
  have X0c2 : w2.cell? ⟨X0a, 2, none⟩ = some (.int .i64 dl) := X0.cell 2
  have X0c3 : w2.cell? ⟨X0a, 3, none⟩ = some (.bool ds) := X0.cell 3
  have X0z : X0a < w2.heap.size := X0.lt
  go_wp2_with fail
  clear X0c0 X0c1 X0c2 X0c3 X0z
  refine (dFew_is hD hd.out hsm hf).mono ?_
  rintro e w3 ⟨rfl, hb⟩
  replace X0 := X0.later hb
  replace hD := dk_later hD hb
  replace hA := acs_later hA hb
  replace hB := hB.trans (hb.mono hB.size)
  replace hL := hL.later hb.size
  clear hb
  have X0c0 : w3.cell? ⟨X0a, 0, none⟩ = some (.slice As ns cs) := X0.cell 0
  have X0c1 : w3.cell? ⟨X0a, 1, none⟩ = some (.slice Ap np cp) := X0.cell 1
  have X0c2 : w3.cell? ⟨X0a, 2, none⟩ = some (.int .i64 dl) := X0.cell 2
  have X0c3 : w3.cell? ⟨X0a, 3, none⟩ = some (.bool ds) := X0.cell 3
  have X0z : X0a < w3.heap.size := X0.lt
  go_wp2
  go_ret
  exact ⟨rfl, hB⟩

set_option maxRecDepth 100000 in
set_option maxHeartbeats 8000000 in
theorem lawT_3 (d : Dk) (As : Option Addr) (ns : Nat) (cs : Nat) (Ap : Option Addr) (np : Nat) (cp : Nat) (dl : Int) (ds : Bool) (w : World) (hD : Hid (DkAt w (Out []) (.slice As ns cs) (.slice Ap np cp) d)) (hd : Hid (DkIs d dl ds)) (hsm : Hid d.small) (Av : Option Addr) (n cv : Nat) (sc : List Ac) (hA : Hid (AcsAt w (Out []) (.slice Av n cv) sc)) (hf : Hid (fewB d = true)) (hn : n ≤ 20) (hp : 0 < np) (_hp2 : np ≤ 9223372036854775807) : Calls Try.prog 8 #[.agg #[.slice As ns cs, .slice Ap np cp, .int .i64 dl, .bool ds], .slice Av n cv] w (fun e w' => e = .returned (.bool true) ∧ Below w.heap.size w w') := by
  have hB := Below.refl w.heap.size w
  have hL := InW.nil w
  go_enter Try.func8, Try.ntmps8
  go_wp2_with fail
  have hst := (Below.refl w.heap.size w).alloc (Nat.le_refl _) (.cells #[.slice As ns cs, .slice Ap np cp, .int .i64 dl, .bool ds] 25)
  replace hD := dk_later hD hst
  replace hA := acs_later hA hst
  replace hL := hL.later hst.size
  replace hB := hB.trans (hst.mono hB.size)
  have X0 := Box.new w [.slice As ns cs, .slice Ap np cp, .int .i64 dl, .bool ds] 25
  have hzX0 : Hid ((w.alloc (.cells #[.slice As ns cs, .slice Ap np cp, .int .i64 dl, .bool ds] 25)).heap.size = w.heap.size + 1) := Lib.hid (by simp)
  clear hst
  generalize w.alloc (.cells #[.slice As ns cs, .slice Ap np cp, .int .i64 dl, .bool ds] 25) = w1 at hB hL hzX0 X0 hD hA ⊢
  generalize hga : w.heap.size = X0a at hzX0 X0 ⊢
  clear hga
  refine (dSane_any _).mono ?_
  rintro e w2 ⟨rfl, hb⟩
  replace X0 := X0.later hb
  replace hD := dk_later hD hb
  replace hA := acs_later hA hb
  replace hB := hB.trans (hb.mono hB.size)
  replace hL := hL.later hb.size
  clear hb
  clear hzX0
  have X0c0 : w2.cell? ⟨X0a, 0, none⟩ = some (.slice As ns cs) := X0.cell 0
  have X0c1 : w2.cell? ⟨X0a, 1, none⟩ = some (.slice Ap np cp) := X0.cell 1
  have X0c2 : w2.cell? ⟨X0a, 2, none⟩ = some (.int .i64 dl) := X0.cell 2
  have X0c3 : w2.cell? ⟨X0a, 3, none⟩ = some (.bool ds) := X0.cell 3
  have X0z : X0a < w2.heap.size := X0.lt
  go_wp2_with fail
  clear X0c0 X0c1 X0c2 X0c3 X0z
  refine (dFew_is hD hd.out hsm hf).mono ?_
  rintro e w3 ⟨rfl, hb⟩
  replace X0 := X0.later hb
  replace hD := dk_later hD hb
  replace hA := acs_later hA hb
  replace hB := hB.trans (hb.mono hB.size)
  replace hL := hL.later hb.size
  clear hb
  have X0c0 : w3.cell? ⟨X0a, 0, none⟩ = some (.slice As ns cs) := X0.cell 0
  have X0c1 : w3.cell? ⟨X0a, 1, none⟩ = some (.slice Ap np cp) := X0.cell 1
  have X0c2 : w3.cell? ⟨X0a, 2, none⟩ = some (.int .i64 dl) := X0.cell 2
  have X0c3 : w3.cell? ⟨X0a, 3, none⟩ = some (.bool ds) := X0.cell 3
  have X0z : X0a < w3.heap.size := X0.lt
  go_wp2
  go_ret
  exact ⟨rfl, hB⟩

set_option maxRecDepth 100000 in
set_option maxHeartbeats 8000000 in
theorem lawT_4 (d : Dk) (As : Option Addr) (cs : Nat) (Ap : Option Addr) (cp : Nat) (dl : Int) (ds : Bool) (w : World) (hD : Hid (DkAt w (Out []) (.slice As 0 cs) (.slice Ap 0 cp) d)) (hd : Hid (DkIs d dl ds)) (hsm : Hid d.small) (Av : Option Addr) (n cv : Nat) (sc : List Ac) (hA : Hid (AcsAt w (Out []) (.slice Av n cv) sc)) (hf : Hid (fewB d = true)) (hn : n ≤ 20) : Calls Try.prog 8 #[.agg #[.slice As 0 cs, .slice Ap 0 cp, .int .i64 dl, .bool ds], .slice Av n cv] w (fun e w' => e = .returned (.bool true) ∧ Below w.heap.size w w') := by
  have hB := Below.refl w.heap.size w
  have hL := InW.nil w
  go_enter Try.func8, Try.ntmps8
  go_wp2_with fail
  have hst := (Below.refl w.heap.size w).alloc (Nat.le_refl _) (.cells #[.slice As 0 cs, .slice Ap 0 cp, .int .i64 dl, .bool ds] 25)
  replace hD := dk_later hD hst
  replace hA := acs_later hA hst
  replace hL := hL.later hst.size
  replace hB := hB.trans (hst.mono hB.size)
  have X0 := Box.new w [.slice As 0 cs, .slice Ap 0 cp, .int .i64 dl, .bool ds] 25
  have hzX0 : Hid ((w.alloc (.cells #[.slice As 0 cs, .slice Ap 0 cp, .int .i64 dl, .bool ds] 25)).heap.size = w.heap.size + 1) := Lib.hid (by simp)
  clear hst
  generalize w.alloc (.cells #[.slice As 0 cs, .slice Ap 0 cp, .int .i64 dl, .bool ds] 25) = w1 at hB hL hzX0 X0 hD hA ⊢
  generalize hga : w.heap.size = X0a at hzX0 X0 ⊢
  clear hga
  refine (dSane_any _).mono ?_
  rintro e w2 ⟨rfl, hb⟩
  replace X0 := X0.later hb
  replace hD := dk_later hD hb
  replace hA := acs_later hA hb
  replace hB := hB.trans (hb.mono hB.size)
  replace hL := hL.later hb.size
  clear hb
  clear hzX0
  have X0c0 : w2.cell? ⟨X0a, 0, none⟩ = some (.slice As 0 cs) := X0.cell 0
  have X0c1 : w2.cell? ⟨X0a, 1, none⟩ = some (.slice Ap 0 cp) := X0.cell 1
  have X0c2 : w2.cell? ⟨X0a, 2, none⟩ = some (.int .i64 dl) := X0.cell 2
  have X0c3 : w2.cell? ⟨X0a, 3, none⟩ = some (.bool ds) := X0.cell 3
  have X0z : X0a < w2.heap.size := X0.lt
  go_wp2_with fail
  clear X0c0 X0c1 X0c2 X0c3 X0z
  refine (dFew_is hD hd.out hsm hf).mono ?_
  rintro e w3 ⟨rfl, hb⟩
  replace X0 := X0.later hb
  replace hD := dk_later hD hb
  replace hA := acs_later hA hb
  replace hB := hB.trans (hb.mono hB.size)
  replace hL := hL.later hb.size
  clear hb
  have X0c0 : w3.cell? ⟨X0a, 0, none⟩ = some (.slice As 0 cs) := X0.cell 0
  have X0c1 : w3.cell? ⟨X0a, 1, none⟩ = some (.slice Ap 0 cp) := X0.cell 1
  have X0c2 : w3.cell? ⟨X0a, 2, none⟩ = some (.int .i64 dl) := X0.cell 2
  have X0c3 : w3.cell? ⟨X0a, 3, none⟩ = some (.bool ds) := X0.cell 3
  have X0z : X0a < w3.heap.size := X0.lt
  go_wp2
  go_ret
  exact ⟨rfl, hB⟩

set_option maxRecDepth 100000 in
set_option maxHeartbeats 8000000 in
theorem lawT_5 (d : Dk) (As : Option Addr) (ns : Nat) (cs : Nat) (Ap : Option Addr) (cp : Nat) (dl : Int) (ds : Bool) (w : World) (hD : Hid (DkAt w (Out []) (.slice As ns cs) (.slice Ap 0 cp) d)) (hd : Hid (DkIs d dl ds)) (hsm : Hid d.small) (Av : Option Addr) (n cv : Nat) (sc : List Ac) (hA : Hid (AcsAt w (Out []) (.slice Av n cv) sc)) (hf : Hid (fewB d = true)) (hn : n ≤ 20) (hs0 : 0 < ns) (hs1 : ns ≤ 9223372036854775807) (hck : Hid (d.checkT = 40)) : Calls Try.prog 8 #[.agg #[.slice As ns cs, .slice Ap 0 cp, .int .i64 dl, .bool ds], .slice Av n cv] w (fun e w' => e = .returned (.bool true) ∧ Below w.heap.size w w') := by
  have hB := Below.refl w.heap.size w
  have hL := InW.nil w
  go_enter Try.func8, Try.ntmps8
  go_wp2_with fail
  have hst := (Below.refl w.heap.size w).alloc (Nat.le_refl _) (.cells #[.slice As ns cs, .slice Ap 0 cp, .int .i64 dl, .bool ds] 25)
  replace hD := dk_later hD hst
  replace hA := acs_later hA hst
  replace hL := hL.later hst.size
  replace hB := hB.trans (hst.mono hB.size)
  have X0 := Box.new w [.slice As ns cs, .slice Ap 0 cp, .int .i64 dl, .bool ds] 25
  have hzX0 : Hid ((w.alloc (.cells #[.slice As ns cs, .slice Ap 0 cp, .int .i64 dl, .bool ds] 25)).heap.size = w.heap.size + 1) := Lib.hid (by simp)
  clear hst
  generalize w.alloc (.cells #[.slice As ns cs, .slice Ap 0 cp, .int .i64 dl, .bool ds] 25) = w1 at hB hL hzX0 X0 hD hA ⊢
  generalize hga : w.heap.size = X0a at hzX0 X0 ⊢
  clear hga
  refine (dSane_any _).mono ?_
  rintro e w2 ⟨rfl, hb⟩
  replace X0 := X0.later hb
  replace hD := dk_later hD hb
  replace hA := acs_later hA hb
  replace hB := hB.trans (hb.mono hB.size)
  replace hL := hL.later hb.size
  clear hb
  clear hzX0
  have X0c0 : w2.cell? ⟨X0a, 0, none⟩ = some (.slice As ns cs) := X0.cell 0
  have X0c1 : w2.cell? ⟨X0a, 1, none⟩ = some (.slice Ap 0 cp) := X0.cell 1
  have X0c2 : w2.cell? ⟨X0a, 2, none⟩ = some (.int .i64 dl) := X0.cell 2
  have X0c3 : w2.cell? ⟨X0a, 3, none⟩ = some (.bool ds) := X0.cell 3
  have X0z : X0a < w2.heap.size := X0.lt
  go_wp2_with fail
  clear X0c0 X0c1 X0c2 X0c3 X0z
  refine (dFew_is hD hd.out hsm hf).mono ?_
  rintro e w3 ⟨rfl, hb⟩
  replace X0 := X0.later hb
  replace hD := dk_later hD hb
  replace hA := acs_later hA hb
  replace hB := hB.trans (hb.mono hB.size)
  replace hL := hL.later hb.size
  clear hb
  have X0c0 : w3.cell? ⟨X0a, 0, none⟩ = some (.slice As ns cs) := X0.cell 0
  have X0c1 : w3.cell? ⟨X0a, 1, none⟩ = some (.slice Ap 0 cp) := X0.cell 1
  have X0c2 : w3.cell? ⟨X0a, 2, none⟩ = some (.int .i64 dl) := X0.cell 2
  have X0c3 : w3.cell? ⟨X0a, 3, none⟩ = some (.bool ds) := X0.cell 3
  have X0z : X0a < w3.heap.size := X0.lt
  go_wp2_with fail
  clear X0c0 X0c1 X0c2 X0c3 X0z
  refine (dCheck_at hck hD.out hd.out.left hd.out.stopped).mono ?_
  rintro e w4 ⟨rfl, hb⟩
  replace X0 := X0.later hb
  replace hD := dk_later hD hb
  replace hA := acs_later hA hb
  replace hB := hB.trans (hb.mono hB.size)
  replace hL := hL.later hb.size
  clear hb
  have X0c0 : w4.cell? ⟨X0a, 0, none⟩ = some (.slice As ns cs) := X0.cell 0
  have X0c1 : w4.cell? ⟨X0a, 1, none⟩ = some (.slice Ap 0 cp) := X0.cell 1
  have X0c2 : w4.cell? ⟨X0a, 2, none⟩ = some (.int .i64 dl) := X0.cell 2
  have X0c3 : w4.cell? ⟨X0a, 3, none⟩ = some (.bool ds) := X0.cell 3
  have X0z : X0a < w4.heap.size := X0.lt
  go_wp2
  go_ret
  exact ⟨rfl, hB⟩

set_option maxRecDepth 100000 in
set_option maxHeartbeats 8000000 in
theorem lawT_6 (d : Dk) (As : Option Addr) (ns : Nat) (cs : Nat) (Ap : Option Addr) (cp : Nat) (dl : Int) (w : World) (hD : Hid (DkAt w (Out []) (.slice As ns cs) (.slice Ap 0 cp) d)) (hd : Hid (DkIs d dl true)) (hsm : Hid d.small) (Av : Option Addr) (n cv : Nat) (sc : List Ac) (hA : Hid (AcsAt w (Out []) (.slice Av n cv) sc)) (hf : Hid (fewB d = true)) (hn : n ≤ 20) (hs0 : 0 < ns) (hs1 : ns ≤ 9223372036854775807) (hck : Hid (d.checkT = 0)) : Calls Try.prog 8 #[.agg #[.slice As ns cs, .slice Ap 0 cp, .int .i64 dl, .bool true], .slice Av n cv] w (fun e w' => e = .returned (.bool true) ∧ Below w.heap.size w w') := by
  have hB := Below.refl w.heap.size w
  have hL := InW.nil w
  go_enter Try.func8, Try.ntmps8
  go_wp2_with fail
  have hst := (Below.refl w.heap.size w).alloc (Nat.le_refl _) (.cells #[.slice As ns cs, .slice Ap 0 cp, .int .i64 dl, .bool true] 25)
  replace hD := dk_later hD hst
  replace hA := acs_later hA hst
  replace hL := hL.later hst.size
  replace hB := hB.trans (hst.mono hB.size)
  have X0 := Box.new w [.slice As ns cs, .slice Ap 0 cp, .int .i64 dl, .bool true] 25
  have hzX0 : Hid ((w.alloc (.cells #[.slice As ns cs, .slice Ap 0 cp, .int .i64 dl, .bool true] 25)).heap.size = w.heap.size + 1) := Lib.hid (by simp)
  clear hst
  generalize w.alloc (.cells #[.slice As ns cs, .slice Ap 0 cp, .int .i64 dl, .bool true] 25) = w1 at hB hL hzX0 X0 hD hA ⊢
  generalize hga : w.heap.size = X0a at hzX0 X0 ⊢
  clear hga
  refine (dSane_any _).mono ?_
  rintro e w2 ⟨rfl, hb⟩
  replace X0 := X0.later hb
  replace hD := dk_later hD hb
  replace hA := acs_later hA hb
  replace hB := hB.trans (hb.mono hB.size)
  replace hL := hL.later hb.size
  clear hb
  clear hzX0
  have X0c0 : w2.cell? ⟨X0a, 0, none⟩ = some (.slice As ns cs) := X0.cell 0
  have X0c1 : w2.cell? ⟨X0a, 1, none⟩ = some (.slice Ap 0 cp) := X0.cell 1
  have X0c2 : w2.cell? ⟨X0a, 2, none⟩ = some (.int .i64 dl) := X0.cell 2
  have X0c3 : w2.cell? ⟨X0a, 3, none⟩ = some (.bool true) := X0.cell 3
  have X0z : X0a < w2.heap.size := X0.lt
  go_wp2_with fail
  clear X0c0 X0c1 X0c2 X0c3 X0z
  refine (dFew_is hD hd.out hsm hf).mono ?_
  rintro e w3 ⟨rfl, hb⟩
  replace X0 := X0.later hb
  replace hD := dk_later hD hb
  replace hA := acs_later hA hb
  replace hB := hB.trans (hb.mono hB.size)
  replace hL := hL.later hb.size
  clear hb
  have X0c0 : w3.cell? ⟨X0a, 0, none⟩ = some (.slice As ns cs) := X0.cell 0
  have X0c1 : w3.cell? ⟨X0a, 1, none⟩ = some (.slice Ap 0 cp) := X0.cell 1
  have X0c2 : w3.cell? ⟨X0a, 2, none⟩ = some (.int .i64 dl) := X0.cell 2
  have X0c3 : w3.cell? ⟨X0a, 3, none⟩ = some (.bool true) := X0.cell 3
  have X0z : X0a < w3.heap.size := X0.lt
  go_wp2_with fail
  clear X0c0 X0c1 X0c2 X0c3 X0z
  refine (dCheck_at hck hD.out hd.out.left hd.out.stopped).mono ?_
  rintro e w4 ⟨rfl, hb⟩
  replace X0 := X0.later hb
  replace hD := dk_later hD hb
  replace hA := acs_later hA hb
  replace hB := hB.trans (hb.mono hB.size)
  replace hL := hL.later hb.size
  clear hb
  have X0c0 : w4.cell? ⟨X0a, 0, none⟩ = some (.slice As ns cs) := X0.cell 0
  have X0c1 : w4.cell? ⟨X0a, 1, none⟩ = some (.slice Ap 0 cp) := X0.cell 1
  have X0c2 : w4.cell? ⟨X0a, 2, none⟩ = some (.int .i64 dl) := X0.cell 2
  have X0c3 : w4.cell? ⟨X0a, 3, none⟩ = some (.bool true) := X0.cell 3
  have X0z : X0a < w4.heap.size := X0.lt
  go_wp2
  go_ret
  exact ⟨rfl, hB⟩

end Go.Proofs.Ytdmeogkdoeaemaa
