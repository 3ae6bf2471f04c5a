/-
  IntervalLaws: the law. (Printed by gen_laws.py.)
-/
import Derived.Test.YtmjbcmicjhgciaaYG
import Derived.Test.YtmjbcmicjhgciaaYH
namespace Go.Proofs.Ytmjbcmicjhgciaa
open Go.RowKit

theorem law_Laws (a b c d u v : Int) (w : World) : Calls Try.prog 10 #[rng a b, rng c d, rng u v] w fun e w' => e = .returned (.bool true) ∧ Below w.heap.size w w' := by
  rcases A1 : addT a b c d with ⟨p1, q1, e⟩
  rcases M1 : mulT a b c d with ⟨p2, q2, g⟩
  rcases S1 : subT p1 q1 c d with ⟨p3, q3, i1⟩
  rcases I1 : insT a b p3 q3 with ⟨o1, j1⟩
  rcases A3 : addT c d u v with ⟨p4, q4, i2⟩
  rcases A4 : addT p1 q1 u v with ⟨p5, q5, j2⟩
  rcases A5 : addT a b p4 q4 with ⟨p6, q6, k2⟩
  rcases M3 : mulT c d u v with ⟨p7, q7, l⟩
  rcases M4 : mulT p2 q2 u v with ⟨p8, q8, j3⟩
  rcases M5 : mulT a b p7 q7 with ⟨p9, q9, k3⟩
  rcases M6 : mulT a b u v with ⟨p10, q10, m⟩
  rcases M7 : mulT a b p4 q4 with ⟨p11, q11, n⟩
  rcases A6 : addT p2 q2 p10 q10 with ⟨p12, q12, o⟩
  rcases I2 : insT p11 q11 p12 q12 with ⟨o2, j4⟩
  exact laws_walk a b c d u v p1 q1 p2 q2 p3 q3 p4 q4 p5 q5 p6 q6 p7 q7 p8 q8 p9 q9 p10 q10 p11 q11 p12 q12 e g i1 j1 i2 j2 k2 l j3 k3 m n o j4 w o1 o2 A1 ((addT_comm a b c d).trans A1) M1 ((mulT_comm a b c d).trans M1) S1 I1 A3 A4 A5 M3 M4 M5 M6 M7 A6 I2
    (laws_1 A1 S1 I1) (laws_2 A1 A3 A4 A5) (laws_3 M1 M3 M4 M5) (laws_4 A3 M1 M6 M7 A6 I2)

end Go.Proofs.Ytmjbcmicjhgciaa
