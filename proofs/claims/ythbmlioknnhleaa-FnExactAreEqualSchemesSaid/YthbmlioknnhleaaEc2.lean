/- Equations of the abstract machine for some functions and their loops, printed by a program. -/
import Derived.Test.YthbmlioknnhleaaDa
namespace Go.Proofs.Ythbmlioknnhleaa.Fn
open Go Go.Proofs.Ythbmlioknnhleaa.Abs
set_option maxRecDepth 100000
set_option linter.unusedVariables false
def SheldProductS_2 (n : Nat) (q : Nat → Nat → Int) (s : Int) (x1 : Int) (x5 : Int) : KS := ⟨[(0, (AV.vi .u8 27 n q)), (1, I x1), (5, I x5)], [], [], 0, true⟩
noncomputable def LheldProductS_2 (n : Nat) (q : Nat → Nat → Int) (s : Int) (N : Nat) (m : Nat) (x1 : Int) (x5 : Int) : R := loopAtH Try.prog (kc (tabOf [])) 40 (rnd [5, 11, 17] 12 N) 68 [] [true, false, true, false] [] m (SheldProductS_2 n q s x1 x5) done
theorem sheldProductS (n : Nat) (q : Nat → Nat → Int) (s : Int) (N : Nat) : fnK Try.prog (kc (tabOf [])) 40 (rnd [5, 11, 17] 12 N) 68 [.vi .u8 27 n q, I s]  done =
    (LheldProductS_2 n q s N N s 0) := by kernel_rfl
theorem rheldProductS_2 (n : Nat) (q : Nat → Nat → Int) (s : Int) (N : Nat) (m : Nat) (x1 : Int) (x5 : Int) : LheldProductS_2 n q s N  (m + 1) x1 x5 =
    (bif (decide (x5 < ((n : Nat) : Int))) then (chk (decide ((0 ≤ x5) ∧ (x5 < ((n : Nat) : Int)))) <|
      bif (!(decide ((q (Int.toNat x5) 0) = (IntKind.u8.wrap x1)))) then (some (I (-1), [], true)) else
      chk (decide ((0 ≤ x5) ∧ (x5 < ((n : Nat) : Int)))) <|
      bif (!(decide ((q (Int.toNat x5) 1) = (IntKind.u8.wrap (W (x1 + 1)))))) then (some (I (-1), [], true)) else
      chk (decide ((0 ≤ x5) ∧ (x5 < ((n : Nat) : Int)))) <|
      bif (!(decide ((q (Int.toNat x5) 2) = (IntKind.u8.wrap (W ((W (x1 + 1)) + 1)))))) then (some (I (-1), [], true)) else
      chk (decide ((0 ≤ x5) ∧ (x5 < ((n : Nat) : Int)))) <|
      bif (!(decide ((q (Int.toNat x5) 3) = (IntKind.u8.wrap (W ((W ((W (x1 + 1)) + 1)) + 1)))))) then (some (I (-1), [], true)) else
      chk (decide ((0 ≤ x5) ∧ (x5 < ((n : Nat) : Int)))) <|
      bif (!(decide ((q (Int.toNat x5) 4) = (IntKind.u8.wrap (W ((W ((W ((W (x1 + 1)) + 1)) + 1)) + 1)))))) then (some (I (-1), [], true)) else
      chk (decide ((0 ≤ x5) ∧ (x5 < ((n : Nat) : Int)))) <|
      bif (!(decide ((q (Int.toNat x5) 5) = (IntKind.u8.wrap (W ((W ((W ((W ((W (x1 + 1)) + 1)) + 1)) + 1)) + 1)))))) then (some (I (-1), [], true)) else
      chk (decide ((0 ≤ x5) ∧ (x5 < ((n : Nat) : Int)))) <|
      bif (!(decide ((q (Int.toNat x5) 6) = (IntKind.u8.wrap (W ((W ((W ((W ((W ((W (x1 + 1)) + 1)) + 1)) + 1)) + 1)) + 1)))))) then (some (I (-1), [], true)) else
      chk (decide ((0 ≤ x5) ∧ (x5 < ((n : Nat) : Int)))) <|
      bif (!(decide ((q (Int.toNat x5) 7) = (IntKind.u8.wrap (W ((W ((W ((W ((W ((W ((W (x1 + 1)) + 1)) + 1)) + 1)) + 1)) + 1)) + 1)))))) then (some (I (-1), [], true)) else
      chk (decide ((0 ≤ x5) ∧ (x5 < ((n : Nat) : Int)))) <|
      bif (!(decide ((q (Int.toNat x5) 8) = (IntKind.u8.wrap (W ((W ((W ((W ((W ((W ((W ((W (x1 + 1)) + 1)) + 1)) + 1)) + 1)) + 1)) + 1)) + 1)))))) then (some (I (-1), [], true)) else
      chk (decide ((0 ≤ x5) ∧ (x5 < ((n : Nat) : Int)))) <|
      bif (!(decide ((q (Int.toNat x5) 9) = (IntKind.u8.wrap (W ((W ((W ((W ((W ((W ((W ((W ((W (x1 + 1)) + 1)) + 1)) + 1)) + 1)) + 1)) + 1)) + 1)) + 1)))))) then (some (I (-1), [], true)) else
      chk (decide ((0 ≤ x5) ∧ (x5 < ((n : Nat) : Int)))) <|
      bif (!(decide ((q (Int.toNat x5) 10) = (IntKind.u8.wrap (W ((W ((W ((W ((W ((W ((W ((W ((W ((W (x1 + 1)) + 1)) + 1)) + 1)) + 1)) + 1)) + 1)) + 1)) + 1)) + 1)))))) then (some (I (-1), [], true)) else
      chk (decide ((0 ≤ x5) ∧ (x5 < ((n : Nat) : Int)))) <|
      bif (!(decide ((q (Int.toNat x5) 11) = (IntKind.u8.wrap (W ((W ((W ((W ((W ((W ((W ((W ((W ((W ((W (x1 + 1)) + 1)) + 1)) + 1)) + 1)) + 1)) + 1)) + 1)) + 1)) + 1)) + 1)))))) then (some (I (-1), [], true)) else
      chk (decide ((0 ≤ x5) ∧ (x5 < ((n : Nat) : Int)))) <|
      bif (!(decide ((q (Int.toNat x5) 12) = (IntKind.u8.wrap (W ((W ((W ((W ((W ((W ((W ((W ((W ((W ((W ((W (x1 + 1)) + 1)) + 1)) + 1)) + 1)) + 1)) + 1)) + 1)) + 1)) + 1)) + 1)) + 1)))))) then (some (I (-1), [], true)) else
      chk (decide ((0 ≤ x5) ∧ (x5 < ((n : Nat) : Int)))) <|
      bif (!(decide ((q (Int.toNat x5) 13) = (IntKind.u8.wrap (W ((W ((W ((W ((W ((W ((W ((W ((W ((W ((W ((W ((W (x1 + 1)) + 1)) + 1)) + 1)) + 1)) + 1)) + 1)) + 1)) + 1)) + 1)) + 1)) + 1)) + 1)))))) then (some (I (-1), [], true)) else
      chk (decide ((0 ≤ x5) ∧ (x5 < ((n : Nat) : Int)))) <|
      bif (!(decide ((q (Int.toNat x5) 14) = (IntKind.u8.wrap (W ((W ((W ((W ((W ((W ((W ((W ((W ((W ((W ((W ((W ((W (x1 + 1)) + 1)) + 1)) + 1)) + 1)) + 1)) + 1)) + 1)) + 1)) + 1)) + 1)) + 1)) + 1)) + 1)))))) then (some (I (-1), [], true)) else
      chk (decide ((0 ≤ x5) ∧ (x5 < ((n : Nat) : Int)))) <|
      bif (!(decide ((q (Int.toNat x5) 15) = (IntKind.u8.wrap (W ((W ((W ((W ((W ((W ((W ((W ((W ((W ((W ((W ((W ((W ((W (x1 + 1)) + 1)) + 1)) + 1)) + 1)) + 1)) + 1)) + 1)) + 1)) + 1)) + 1)) + 1)) + 1)) + 1)) + 1)))))) then (some (I (-1), [], true)) else
      chk (decide ((0 ≤ x5) ∧ (x5 < ((n : Nat) : Int)))) <|
      bif (!(decide ((q (Int.toNat x5) 16) = (IntKind.u8.wrap (W ((W ((W ((W ((W ((W ((W ((W ((W ((W ((W ((W ((W ((W ((W ((W (x1 + 1)) + 1)) + 1)) + 1)) + 1)) + 1)) + 1)) + 1)) + 1)) + 1)) + 1)) + 1)) + 1)) + 1)) + 1)) + 1)))))) then (some (I (-1), [], true)) else
      chk (decide ((0 ≤ x5) ∧ (x5 < ((n : Nat) : Int)))) <|
      bif (!(decide ((q (Int.toNat x5) 17) = (IntKind.u8.wrap (W ((W ((W ((W ((W ((W ((W ((W ((W ((W ((W ((W ((W ((W ((W ((W ((W (x1 + 1)) + 1)) + 1)) + 1)) + 1)) + 1)) + 1)) + 1)) + 1)) + 1)) + 1)) + 1)) + 1)) + 1)) + 1)) + 1)) + 1)))))) then (some (I (-1), [], true)) else
      chk (decide ((0 ≤ x5) ∧ (x5 < ((n : Nat) : Int)))) <|
      bif (!(decide ((q (Int.toNat x5) 18) = (IntKind.u8.wrap (W ((W ((W ((W ((W ((W ((W ((W ((W ((W ((W ((W ((W ((W ((W ((W ((W ((W (x1 + 1)) + 1)) + 1)) + 1)) + 1)) + 1)) + 1)) + 1)) + 1)) + 1)) + 1)) + 1)) + 1)) + 1)) + 1)) + 1)) + 1)) + 1)))))) then (some (I (-1), [], true)) else
      chk (decide ((0 ≤ x5) ∧ (x5 < ((n : Nat) : Int)))) <|
      bif (!(decide ((q (Int.toNat x5) 19) = (IntKind.u8.wrap (W ((W ((W ((W ((W ((W ((W ((W ((W ((W ((W ((W ((W ((W ((W ((W ((W ((W ((W (x1 + 1)) + 1)) + 1)) + 1)) + 1)) + 1)) + 1)) + 1)) + 1)) + 1)) + 1)) + 1)) + 1)) + 1)) + 1)) + 1)) + 1)) + 1)) + 1)))))) then (some (I (-1), [], true)) else
      chk (decide ((0 ≤ x5) ∧ (x5 < ((n : Nat) : Int)))) <|
      bif (!(decide ((q (Int.toNat x5) 20) = (IntKind.u8.wrap (W ((W ((W ((W ((W ((W ((W ((W ((W ((W ((W ((W ((W ((W ((W ((W ((W ((W ((W ((W (x1 + 1)) + 1)) + 1)) + 1)) + 1)) + 1)) + 1)) + 1)) + 1)) + 1)) + 1)) + 1)) + 1)) + 1)) + 1)) + 1)) + 1)) + 1)) + 1)) + 1)))))) then (some (I (-1), [], true)) else
      chk (decide ((0 ≤ x5) ∧ (x5 < ((n : Nat) : Int)))) <|
      bif (!(decide ((q (Int.toNat x5) 21) = (IntKind.u8.wrap (W ((W ((W ((W ((W ((W ((W ((W ((W ((W ((W ((W ((W ((W ((W ((W ((W ((W ((W ((W ((W (x1 + 1)) + 1)) + 1)) + 1)) + 1)) + 1)) + 1)) + 1)) + 1)) + 1)) + 1)) + 1)) + 1)) + 1)) + 1)) + 1)) + 1)) + 1)) + 1)) + 1)) + 1)))))) then (some (I (-1), [], true)) else
      chk (decide ((0 ≤ x5) ∧ (x5 < ((n : Nat) : Int)))) <|
      bif (!(decide ((q (Int.toNat x5) 22) = (IntKind.u8.wrap (W ((W ((W ((W ((W ((W ((W ((W ((W ((W ((W ((W ((W ((W ((W ((W ((W ((W ((W ((W ((W ((W (x1 + 1)) + 1)) + 1)) + 1)) + 1)) + 1)) + 1)) + 1)) + 1)) + 1)) + 1)) + 1)) + 1)) + 1)) + 1)) + 1)) + 1)) + 1)) + 1)) + 1)) + 1)) + 1)))))) then (some (I (-1), [], true)) else
      chk (decide ((0 ≤ x5) ∧ (x5 < ((n : Nat) : Int)))) <|
      bif (!(decide ((q (Int.toNat x5) 23) = (IntKind.u8.wrap (W ((W ((W ((W ((W ((W ((W ((W ((W ((W ((W ((W ((W ((W ((W ((W ((W ((W ((W ((W ((W ((W ((W (x1 + 1)) + 1)) + 1)) + 1)) + 1)) + 1)) + 1)) + 1)) + 1)) + 1)) + 1)) + 1)) + 1)) + 1)) + 1)) + 1)) + 1)) + 1)) + 1)) + 1)) + 1)) + 1)) + 1)))))) then (some (I (-1), [], true)) else
      chk (decide ((0 ≤ x5) ∧ (x5 < ((n : Nat) : Int)))) <|
      bif (!(decide ((q (Int.toNat x5) 24) = (IntKind.u8.wrap (W ((W ((W ((W ((W ((W ((W ((W ((W ((W ((W ((W ((W ((W ((W ((W ((W ((W ((W ((W ((W ((W ((W ((W (x1 + 1)) + 1)) + 1)) + 1)) + 1)) + 1)) + 1)) + 1)) + 1)) + 1)) + 1)) + 1)) + 1)) + 1)) + 1)) + 1)) + 1)) + 1)) + 1)) + 1)) + 1)) + 1)) + 1)) + 1)))))) then (some (I (-1), [], true)) else
      chk (decide ((0 ≤ x5) ∧ (x5 < ((n : Nat) : Int)))) <|
      bif (!(decide ((q (Int.toNat x5) 25) = (IntKind.u8.wrap (W ((W ((W ((W ((W ((W ((W ((W ((W ((W ((W ((W ((W ((W ((W ((W ((W ((W ((W ((W ((W ((W ((W ((W ((W (x1 + 1)) + 1)) + 1)) + 1)) + 1)) + 1)) + 1)) + 1)) + 1)) + 1)) + 1)) + 1)) + 1)) + 1)) + 1)) + 1)) + 1)) + 1)) + 1)) + 1)) + 1)) + 1)) + 1)) + 1)) + 1)))))) then (some (I (-1), [], true)) else
      chk (decide ((0 ≤ x5) ∧ (x5 < ((n : Nat) : Int)))) <|
      bif (!(decide ((q (Int.toNat x5) 26) = (IntKind.u8.wrap (W ((W ((W ((W ((W ((W ((W ((W ((W ((W ((W ((W ((W ((W ((W ((W ((W ((W ((W ((W ((W ((W ((W ((W ((W ((W (x1 + 1)) + 1)) + 1)) + 1)) + 1)) + 1)) + 1)) + 1)) + 1)) + 1)) + 1)) + 1)) + 1)) + 1)) + 1)) + 1)) + 1)) + 1)) + 1)) + 1)) + 1)) + 1)) + 1)) + 1)) + 1)) + 1)))))) then (some (I (-1), [], true)) else
      LheldProductS_2 n q s N m (W ((W ((W ((W ((W ((W ((W ((W ((W ((W ((W ((W ((W ((W ((W ((W ((W ((W ((W ((W ((W ((W ((W ((W ((W ((W ((W (x1 + 1)) + 1)) + 1)) + 1)) + 1)) + 1)) + 1)) + 1)) + 1)) + 1)) + 1)) + 1)) + 1)) + 1)) + 1)) + 1)) + 1)) + 1)) + 1)) + 1)) + 1)) + 1)) + 1)) + 1)) + 1)) + 1)) + 1)) (W (x5 + 1))) else
    some (I x1, [], true)) := by kernel_rfl

end Go.Proofs.Ythbmlioknnhleaa.Fn
