/- Equations of the abstract machine for some functions and their loops, printed by a program. -/
import Derived.Test.YthbmlioknnhleaaDa
namespace Go.Proofs.Ythbmlioknnhleaa.Fn
open Go Go.Proofs.Ythbmlioknnhleaa.Abs
set_option maxRecDepth 100000
set_option linter.unusedVariables false
def SmarkProductS_2 (n : Nat) (q : Nat → Nat → Int) (s : Int) (x1 : Int) (x5 : Int) (qh0 : Nat → Nat → Int) (cl : Bool) : KS := ⟨[(0, (AV.sl 0 0 n n)), (1, I x1), (5, I x5)], [], [(KB.mk 63 27 (KR.ints .u8 27 n qh0))], 1, cl⟩
noncomputable def LmarkProductS_2 (n : Nat) (q : Nat → Nat → Int) (s : Int) (N : Nat) (m : Nat) (x1 : Int) (x5 : Int) (qh0 : Nat → Nat → Int) (cl : Bool) : R := loopAtH Try.prog (kc (tabOf [])) 40 (rnd [5, 10, 15] 12 N) 63 [KB.ofNB ⟨tProduct, 27, .u8, n, q⟩] [true, false, true, false] [] m (SmarkProductS_2 n q s x1 x5 qh0 cl) done
theorem smarkProductS (n : Nat) (q : Nat → Nat → Int) (s : Int) (N : Nat) : fnKH Try.prog (kc (tabOf [])) 40 (rnd [5, 10, 15] 12 N) 63 [.sl 0 0 n n, I s] [KB.ofNB ⟨tProduct, 27, .u8, n, q⟩] done =
    (LmarkProductS_2 n q s N N s 0 q true) := by kernel_rfl
theorem rmarkProductS_2 (n : Nat) (q : Nat → Nat → Int) (s : Int) (N : Nat) (m : Nat) (x1 : Int) (x5 : Int) (qh0 : Nat → Nat → Int) (cl : Bool) : LmarkProductS_2 n q s N  (m + 1) x1 x5 qh0 cl =
    (chk (n == n) <|
    bif (decide (x5 < ((n : Nat) : Int))) then (chk (n == n) <|
      chk (decide ((0 ≤ x5) ∧ (x5 < ((n : Nat) : Int)))) <|
      chk (decide ((0 + n) ≤ n)) <|
      chk (n == n) <|
      chk (n == n) <|
      chk (n == n) <|
      chk (decide ((0 + (Int.toNat x5)) < n)) <|
      chk (n == n) <|
      chk (decide ((0 ≤ x5) ∧ (x5 < ((n : Nat) : Int)))) <|
      chk (decide ((0 + n) ≤ n)) <|
      chk (n == n) <|
      chk (n == n) <|
      chk (n == n) <|
      chk (decide ((0 + (Int.toNat x5)) < n)) <|
      chk (n == n) <|
      chk (decide ((0 ≤ x5) ∧ (x5 < ((n : Nat) : Int)))) <|
      chk (decide ((0 + n) ≤ n)) <|
      chk (n == n) <|
      chk (n == n) <|
      chk (n == n) <|
      chk (decide ((0 + (Int.toNat x5)) < n)) <|
      chk (n == n) <|
      chk (decide ((0 ≤ x5) ∧ (x5 < ((n : Nat) : Int)))) <|
      chk (decide ((0 + n) ≤ n)) <|
      chk (n == n) <|
      chk (n == n) <|
      chk (n == n) <|
      chk (decide ((0 + (Int.toNat x5)) < n)) <|
      chk (n == n) <|
      chk (decide ((0 ≤ x5) ∧ (x5 < ((n : Nat) : Int)))) <|
      chk (decide ((0 + n) ≤ n)) <|
      chk (n == n) <|
      chk (n == n) <|
      chk (n == n) <|
      chk (decide ((0 + (Int.toNat x5)) < n)) <|
      chk (n == n) <|
      chk (decide ((0 ≤ x5) ∧ (x5 < ((n : Nat) : Int)))) <|
      chk (decide ((0 + n) ≤ n)) <|
      chk (n == n) <|
      chk (n == n) <|
      chk (n == n) <|
      chk (decide ((0 + (Int.toNat x5)) < n)) <|
      chk (n == n) <|
      chk (decide ((0 ≤ x5) ∧ (x5 < ((n : Nat) : Int)))) <|
      chk (decide ((0 + n) ≤ n)) <|
      chk (n == n) <|
      chk (n == n) <|
      chk (n == n) <|
      chk (decide ((0 + (Int.toNat x5)) < n)) <|
      chk (n == n) <|
      chk (decide ((0 ≤ x5) ∧ (x5 < ((n : Nat) : Int)))) <|
      chk (decide ((0 + n) ≤ n)) <|
      chk (n == n) <|
      chk (n == n) <|
      chk (n == n) <|
      chk (decide ((0 + (Int.toNat x5)) < n)) <|
      chk (n == n) <|
      chk (decide ((0 ≤ x5) ∧ (x5 < ((n : Nat) : Int)))) <|
      chk (decide ((0 + n) ≤ n)) <|
      chk (n == n) <|
      chk (n == n) <|
      chk (n == n) <|
      chk (decide ((0 + (Int.toNat x5)) < n)) <|
      chk (n == n) <|
      chk (decide ((0 ≤ x5) ∧ (x5 < ((n : Nat) : Int)))) <|
      chk (decide ((0 + n) ≤ n)) <|
      chk (n == n) <|
      chk (n == n) <|
      chk (n == n) <|
      chk (decide ((0 + (Int.toNat x5)) < n)) <|
      chk (n == n) <|
      chk (decide ((0 ≤ x5) ∧ (x5 < ((n : Nat) : Int)))) <|
      chk (decide ((0 + n) ≤ n)) <|
      chk (n == n) <|
      chk (n == n) <|
      chk (n == n) <|
      chk (decide ((0 + (Int.toNat x5)) < n)) <|
      chk (n == n) <|
      chk (decide ((0 ≤ x5) ∧ (x5 < ((n : Nat) : Int)))) <|
      chk (decide ((0 + n) ≤ n)) <|
      chk (n == n) <|
      chk (n == n) <|
      chk (n == n) <|
      chk (decide ((0 + (Int.toNat x5)) < n)) <|
      chk (n == n) <|
      chk (decide ((0 ≤ x5) ∧ (x5 < ((n : Nat) : Int)))) <|
      chk (decide ((0 + n) ≤ n)) <|
      chk (n == n) <|
      chk (n == n) <|
      chk (n == n) <|
      chk (decide ((0 + (Int.toNat x5)) < n)) <|
      chk (n == n) <|
      chk (decide ((0 ≤ x5) ∧ (x5 < ((n : Nat) : Int)))) <|
      chk (decide ((0 + n) ≤ n)) <|
      chk (n == n) <|
      chk (n == n) <|
      chk (n == n) <|
      chk (decide ((0 + (Int.toNat x5)) < n)) <|
      chk (n == n) <|
      chk (decide ((0 ≤ x5) ∧ (x5 < ((n : Nat) : Int)))) <|
      chk (decide ((0 + n) ≤ n)) <|
      chk (n == n) <|
      chk (n == n) <|
      chk (n == n) <|
      chk (decide ((0 + (Int.toNat x5)) < n)) <|
      chk (n == n) <|
      chk (decide ((0 ≤ x5) ∧ (x5 < ((n : Nat) : Int)))) <|
      chk (decide ((0 + n) ≤ n)) <|
      chk (n == n) <|
      chk (n == n) <|
      chk (n == n) <|
      chk (decide ((0 + (Int.toNat x5)) < n)) <|
      chk (n == n) <|
      chk (decide ((0 ≤ x5) ∧ (x5 < ((n : Nat) : Int)))) <|
      chk (decide ((0 + n) ≤ n)) <|
      chk (n == n) <|
      chk (n == n) <|
      chk (n == n) <|
      chk (decide ((0 + (Int.toNat x5)) < n)) <|
      chk (n == n) <|
      chk (decide ((0 ≤ x5) ∧ (x5 < ((n : Nat) : Int)))) <|
      chk (decide ((0 + n) ≤ n)) <|
      chk (n == n) <|
      chk (n == n) <|
      chk (n == n) <|
      chk (decide ((0 + (Int.toNat x5)) < n)) <|
      chk (n == n) <|
      chk (decide ((0 ≤ x5) ∧ (x5 < ((n : Nat) : Int)))) <|
      chk (decide ((0 + n) ≤ n)) <|
      chk (n == n) <|
      chk (n == n) <|
      chk (n == n) <|
      chk (decide ((0 + (Int.toNat x5)) < n)) <|
      chk (n == n) <|
      chk (decide ((0 ≤ x5) ∧ (x5 < ((n : Nat) : Int)))) <|
      chk (decide ((0 + n) ≤ n)) <|
      chk (n == n) <|
      chk (n == n) <|
      chk (n == n) <|
      chk (decide ((0 + (Int.toNat x5)) < n)) <|
      chk (n == n) <|
      chk (decide ((0 ≤ x5) ∧ (x5 < ((n : Nat) : Int)))) <|
      chk (decide ((0 + n) ≤ n)) <|
      chk (n == n) <|
      chk (n == n) <|
      chk (n == n) <|
      chk (decide ((0 + (Int.toNat x5)) < n)) <|
      chk (n == n) <|
      chk (decide ((0 ≤ x5) ∧ (x5 < ((n : Nat) : Int)))) <|
      chk (decide ((0 + n) ≤ n)) <|
      chk (n == n) <|
      chk (n == n) <|
      chk (n == n) <|
      chk (decide ((0 + (Int.toNat x5)) < n)) <|
      chk (n == n) <|
      chk (decide ((0 ≤ x5) ∧ (x5 < ((n : Nat) : Int)))) <|
      chk (decide ((0 + n) ≤ n)) <|
      chk (n == n) <|
      chk (n == n) <|
      chk (n == n) <|
      chk (decide ((0 + (Int.toNat x5)) < n)) <|
      chk (n == n) <|
      chk (decide ((0 ≤ x5) ∧ (x5 < ((n : Nat) : Int)))) <|
      chk (decide ((0 + n) ≤ n)) <|
      chk (n == n) <|
      chk (n == n) <|
      chk (n == n) <|
      chk (decide ((0 + (Int.toNat x5)) < n)) <|
      chk (n == n) <|
      chk (decide ((0 ≤ x5) ∧ (x5 < ((n : Nat) : Int)))) <|
      chk (decide ((0 + n) ≤ n)) <|
      chk (n == n) <|
      chk (n == n) <|
      chk (n == n) <|
      chk (decide ((0 + (Int.toNat x5)) < n)) <|
      chk (n == n) <|
      chk (decide ((0 ≤ x5) ∧ (x5 < ((n : Nat) : Int)))) <|
      chk (decide ((0 + n) ≤ n)) <|
      chk (n == n) <|
      chk (n == n) <|
      chk (n == n) <|
      chk (decide ((0 + (Int.toNat x5)) < n)) <|
      chk (n == n) <|
      chk (decide ((0 ≤ x5) ∧ (x5 < ((n : Nat) : Int)))) <|
      chk (decide ((0 + n) ≤ n)) <|
      chk (n == n) <|
      chk (n == n) <|
      chk (n == n) <|
      chk (decide ((0 + (Int.toNat x5)) < n)) <|
      LmarkProductS_2 n q s N m (W ((W ((W ((W ((W ((W ((W ((W ((W ((W ((W ((W ((W ((W ((W ((W ((W ((W ((W ((W ((W ((W ((W ((W ((W ((W ((W (x1 + 1)) + 1)) + 1)) + 1)) + 1)) + 1)) + 1)) + 1)) + 1)) + 1)) + 1)) + 1)) + 1)) + 1)) + 1)) + 1)) + 1)) + 1)) + 1)) + 1)) + 1)) + 1)) + 1)) + 1)) + 1)) + 1)) + 1)) (W (x5 + 1)) (fun a d => (bif ((d == 26) && (a == (0 + (Int.toNat x5)))) then (IntKind.u8.wrap (W ((W ((W ((W ((W ((W ((W ((W ((W ((W ((W ((W ((W ((W ((W ((W ((W ((W ((W ((W ((W ((W ((W ((W ((W ((W (x1 + 1)) + 1)) + 1)) + 1)) + 1)) + 1)) + 1)) + 1)) + 1)) + 1)) + 1)) + 1)) + 1)) + 1)) + 1)) + 1)) + 1)) + 1)) + 1)) + 1)) + 1)) + 1)) + 1)) + 1)) + 1)) + 1))) else (bif ((d == 25) && (a == (0 + (Int.toNat x5)))) then (IntKind.u8.wrap (W ((W ((W ((W ((W ((W ((W ((W ((W ((W ((W ((W ((W ((W ((W ((W ((W ((W ((W ((W ((W ((W ((W ((W ((W (x1 + 1)) + 1)) + 1)) + 1)) + 1)) + 1)) + 1)) + 1)) + 1)) + 1)) + 1)) + 1)) + 1)) + 1)) + 1)) + 1)) + 1)) + 1)) + 1)) + 1)) + 1)) + 1)) + 1)) + 1)) + 1))) else (bif ((d == 24) && (a == (0 + (Int.toNat x5)))) then (IntKind.u8.wrap (W ((W ((W ((W ((W ((W ((W ((W ((W ((W ((W ((W ((W ((W ((W ((W ((W ((W ((W ((W ((W ((W ((W ((W (x1 + 1)) + 1)) + 1)) + 1)) + 1)) + 1)) + 1)) + 1)) + 1)) + 1)) + 1)) + 1)) + 1)) + 1)) + 1)) + 1)) + 1)) + 1)) + 1)) + 1)) + 1)) + 1)) + 1)) + 1))) else (bif ((d == 23) && (a == (0 + (Int.toNat x5)))) then (IntKind.u8.wrap (W ((W ((W ((W ((W ((W ((W ((W ((W ((W ((W ((W ((W ((W ((W ((W ((W ((W ((W ((W ((W ((W ((W (x1 + 1)) + 1)) + 1)) + 1)) + 1)) + 1)) + 1)) + 1)) + 1)) + 1)) + 1)) + 1)) + 1)) + 1)) + 1)) + 1)) + 1)) + 1)) + 1)) + 1)) + 1)) + 1)) + 1))) else (bif ((d == 22) && (a == (0 + (Int.toNat x5)))) then (IntKind.u8.wrap (W ((W ((W ((W ((W ((W ((W ((W ((W ((W ((W ((W ((W ((W ((W ((W ((W ((W ((W ((W ((W ((W (x1 + 1)) + 1)) + 1)) + 1)) + 1)) + 1)) + 1)) + 1)) + 1)) + 1)) + 1)) + 1)) + 1)) + 1)) + 1)) + 1)) + 1)) + 1)) + 1)) + 1)) + 1)) + 1))) else (bif ((d == 21) && (a == (0 + (Int.toNat x5)))) then (IntKind.u8.wrap (W ((W ((W ((W ((W ((W ((W ((W ((W ((W ((W ((W ((W ((W ((W ((W ((W ((W ((W ((W ((W (x1 + 1)) + 1)) + 1)) + 1)) + 1)) + 1)) + 1)) + 1)) + 1)) + 1)) + 1)) + 1)) + 1)) + 1)) + 1)) + 1)) + 1)) + 1)) + 1)) + 1)) + 1))) else (bif ((d == 20) && (a == (0 + (Int.toNat x5)))) then (IntKind.u8.wrap (W ((W ((W ((W ((W ((W ((W ((W ((W ((W ((W ((W ((W ((W ((W ((W ((W ((W ((W ((W (x1 + 1)) + 1)) + 1)) + 1)) + 1)) + 1)) + 1)) + 1)) + 1)) + 1)) + 1)) + 1)) + 1)) + 1)) + 1)) + 1)) + 1)) + 1)) + 1)) + 1))) else (bif ((d == 19) && (a == (0 + (Int.toNat x5)))) then (IntKind.u8.wrap (W ((W ((W ((W ((W ((W ((W ((W ((W ((W ((W ((W ((W ((W ((W ((W ((W ((W ((W (x1 + 1)) + 1)) + 1)) + 1)) + 1)) + 1)) + 1)) + 1)) + 1)) + 1)) + 1)) + 1)) + 1)) + 1)) + 1)) + 1)) + 1)) + 1)) + 1))) else (bif ((d == 18) && (a == (0 + (Int.toNat x5)))) then (IntKind.u8.wrap (W ((W ((W ((W ((W ((W ((W ((W ((W ((W ((W ((W ((W ((W ((W ((W ((W ((W (x1 + 1)) + 1)) + 1)) + 1)) + 1)) + 1)) + 1)) + 1)) + 1)) + 1)) + 1)) + 1)) + 1)) + 1)) + 1)) + 1)) + 1)) + 1))) else (bif ((d == 17) && (a == (0 + (Int.toNat x5)))) then (IntKind.u8.wrap (W ((W ((W ((W ((W ((W ((W ((W ((W ((W ((W ((W ((W ((W ((W ((W ((W (x1 + 1)) + 1)) + 1)) + 1)) + 1)) + 1)) + 1)) + 1)) + 1)) + 1)) + 1)) + 1)) + 1)) + 1)) + 1)) + 1)) + 1))) else (bif ((d == 16) && (a == (0 + (Int.toNat x5)))) then (IntKind.u8.wrap (W ((W ((W ((W ((W ((W ((W ((W ((W ((W ((W ((W ((W ((W ((W ((W (x1 + 1)) + 1)) + 1)) + 1)) + 1)) + 1)) + 1)) + 1)) + 1)) + 1)) + 1)) + 1)) + 1)) + 1)) + 1)) + 1))) else (bif ((d == 15) && (a == (0 + (Int.toNat x5)))) then (IntKind.u8.wrap (W ((W ((W ((W ((W ((W ((W ((W ((W ((W ((W ((W ((W ((W ((W (x1 + 1)) + 1)) + 1)) + 1)) + 1)) + 1)) + 1)) + 1)) + 1)) + 1)) + 1)) + 1)) + 1)) + 1)) + 1))) else (bif ((d == 14) && (a == (0 + (Int.toNat x5)))) then (IntKind.u8.wrap (W ((W ((W ((W ((W ((W ((W ((W ((W ((W ((W ((W ((W ((W (x1 + 1)) + 1)) + 1)) + 1)) + 1)) + 1)) + 1)) + 1)) + 1)) + 1)) + 1)) + 1)) + 1)) + 1))) else (bif ((d == 13) && (a == (0 + (Int.toNat x5)))) then (IntKind.u8.wrap (W ((W ((W ((W ((W ((W ((W ((W ((W ((W ((W ((W ((W (x1 + 1)) + 1)) + 1)) + 1)) + 1)) + 1)) + 1)) + 1)) + 1)) + 1)) + 1)) + 1)) + 1))) else (bif ((d == 12) && (a == (0 + (Int.toNat x5)))) then (IntKind.u8.wrap (W ((W ((W ((W ((W ((W ((W ((W ((W ((W ((W ((W (x1 + 1)) + 1)) + 1)) + 1)) + 1)) + 1)) + 1)) + 1)) + 1)) + 1)) + 1)) + 1))) else (bif ((d == 11) && (a == (0 + (Int.toNat x5)))) then (IntKind.u8.wrap (W ((W ((W ((W ((W ((W ((W ((W ((W ((W ((W (x1 + 1)) + 1)) + 1)) + 1)) + 1)) + 1)) + 1)) + 1)) + 1)) + 1)) + 1))) else (bif ((d == 10) && (a == (0 + (Int.toNat x5)))) then (IntKind.u8.wrap (W ((W ((W ((W ((W ((W ((W ((W ((W ((W (x1 + 1)) + 1)) + 1)) + 1)) + 1)) + 1)) + 1)) + 1)) + 1)) + 1))) else (bif ((d == 9) && (a == (0 + (Int.toNat x5)))) then (IntKind.u8.wrap (W ((W ((W ((W ((W ((W ((W ((W ((W (x1 + 1)) + 1)) + 1)) + 1)) + 1)) + 1)) + 1)) + 1)) + 1))) else (bif ((d == 8) && (a == (0 + (Int.toNat x5)))) then (IntKind.u8.wrap (W ((W ((W ((W ((W ((W ((W ((W (x1 + 1)) + 1)) + 1)) + 1)) + 1)) + 1)) + 1)) + 1))) else (bif ((d == 7) && (a == (0 + (Int.toNat x5)))) then (IntKind.u8.wrap (W ((W ((W ((W ((W ((W ((W (x1 + 1)) + 1)) + 1)) + 1)) + 1)) + 1)) + 1))) else (bif ((d == 6) && (a == (0 + (Int.toNat x5)))) then (IntKind.u8.wrap (W ((W ((W ((W ((W ((W (x1 + 1)) + 1)) + 1)) + 1)) + 1)) + 1))) else (bif ((d == 5) && (a == (0 + (Int.toNat x5)))) then (IntKind.u8.wrap (W ((W ((W ((W ((W (x1 + 1)) + 1)) + 1)) + 1)) + 1))) else (bif ((d == 4) && (a == (0 + (Int.toNat x5)))) then (IntKind.u8.wrap (W ((W ((W ((W (x1 + 1)) + 1)) + 1)) + 1))) else (bif ((d == 3) && (a == (0 + (Int.toNat x5)))) then (IntKind.u8.wrap (W ((W ((W (x1 + 1)) + 1)) + 1))) else (bif ((d == 2) && (a == (0 + (Int.toNat x5)))) then (IntKind.u8.wrap (W ((W (x1 + 1)) + 1))) else (bif ((d == 1) && (a == (0 + (Int.toNat x5)))) then (IntKind.u8.wrap (W (x1 + 1))) else (bif ((d == 0) && (a == (0 + (Int.toNat x5)))) then (IntKind.u8.wrap x1) else (qh0 a d))))))))))))))))))))))))))))) (((((((((((((((((((((((((((((((((((((((((((((((((((((((((((((((((((((((((((((((((((((((((((((((((((((((((((((((((((((((((((((((((((((((((((((((((((((((((((((((((((((((((((((((((((((((((((((((((((((((((((((((((((((((((((((((((((((((((((((((((((((((((((((((((((((((((((((((((((((((((((((((((((((((((((((((((((((((((((((((((((((((((((((((((((((((((((((((((((((((((((((((((((((((((((((((((((((((((((((((((((((((((((((((((((((((((((((((((((((((((((((((((((((((((((((((((((((((((((cl && true) && true) && true) && true) && true) && true) && true) && true) && true) && true) && true) && true) && true) && true) && true) && false) && true) && true) && true) && true) && true) && true) && true) && true) && true) && true) && true) && true) && true) && true) && true) && true) && false) && true) && true) && true) && true) && true) && true) && true) && true) && true) && true) && true) && true) && true) && true) && true) && true) && false) && true) && true) && true) && true) && true) && true) && true) && true) && true) && true) && true) && true) && true) && true) && true) && true) && false) && true) && true) && true) && true) && true) && true) && true) && true) && true) && true) && true) && true) && true) && true) && true) && true) && false) && true) && true) && true) && true) && true) && true) && true) && true) && true) && true) && true) && true) && true) && true) && true) && true) && false) && true) && true) && true) && true) && true) && true) && true) && true) && true) && true) && true) && true) && true) && true) && true) && true) && false) && true) && true) && true) && true) && true) && true) && true) && true) && true) && true) && true) && true) && true) && true) && true) && true) && false) && true) && true) && true) && true) && true) && true) && true) && true) && true) && true) && true) && true) && true) && true) && true) && true) && false) && true) && true) && true) && true) && true) && true) && true) && true) && true) && true) && true) && true) && true) && true) && true) && true) && true) && true) && true) && false) && true) && true) && true) && true) && true) && true) && true) && true) && true) && true) && true) && true) && true) && true) && true) && true) && false) && true) && true) && true) && true) && true) && true) && true) && true) && true) && true) && true) && true) && true) && true) && true) && true) && false) && true) && true) && true) && true) && true) && true) && true) && true) && true) && true) && true) && true) && true) && true) && true) && true) && false) && true) && true) && true) && true) && true) && true) && true) && true) && true) && true) && true) && true) && true) && true) && true) && true) && false) && true) && true) && true) && true) && true) && true) && true) && true) && true) && true) && true) && true) && true) && true) && true) && true) && false) && true) && true) && true) && true) && true) && true) && true) && true) && true) && true) && true) && true) && true) && true) && true) && true) && false) && true) && true) && true) && true) && true) && true) && true) && true) && true) && true) && true) && true) && true) && true) && true) && true) && false) && true) && true) && true) && true) && true) && true) && true) && true) && true) && true) && true) && true) && true) && true) && true) && true) && false) && true) && true) && true) && true) && true) && true) && true) && true) && true) && true) && true) && true) && true) && true) && true) && true) && true) && true) && true) && false) && true) && true) && true) && true) && true) && true) && true) && true) && true) && true) && true) && true) && true) && true) && true) && true) && false) && true) && true) && true) && true) && true) && true) && true) && true) && true) && true) && true) && true) && true) && true) && true) && true) && false) && true) && true) && true) && true) && true) && true) && true) && true) && true) && true) && true) && true) && true) && true) && true) && true) && false) && true) && true) && true) && true) && true) && true) && true) && true) && true) && true) && true) && true) && true) && true) && true) && true) && false) && true) && true) && true) && true) && true) && true) && true) && true) && true) && true) && true) && true) && true) && true) && true) && true) && false) && true) && true) && true) && true) && true) && true) && true) && true) && true) && true) && true) && true) && true) && true) && true) && true) && false) && true) && true) && true) && true) && true) && true) && true) && true) && true) && true) && true) && true) && true) && true) && true) && true) && false) && true) && true) && true) && true) && true) && true) && true) && true) && true) && true) && true) && true) && true) && true) && true) && true) && false) && true) && true) && true) && true) && true) && true) && true) && true) && true) && true) && true)) else
    bif ((((((cl && true) && true) && true) && true) && true) && true) then (some (I x1, [(KB.mk 63 27 (KR.ints .u8 27 n q))], true)) else
    some (I x1, [(KB.mk 63 27 (KR.ints .u8 27 n qh0))], true)) := by kernel_rfl

end Go.Proofs.Ythbmlioknnhleaa.Fn
