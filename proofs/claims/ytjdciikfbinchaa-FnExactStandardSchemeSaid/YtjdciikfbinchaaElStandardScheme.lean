/- Equations of the abstract machine for some functions and their loops, printed by a program. -/
import Derived.Test.YtjdciikfbinchaaDstd
namespace Go.Proofs.Ytjdciikfbinchaa.Fn
open Go Go.Proofs.Ytjdciikfbinchaa.Abs
set_option maxRecDepth 100000
set_option linter.unusedVariables false
theorem slawStandardScheme_ok (a0 : Int) (a1 : Int) (a2 : Int) (a3 : Int) (N : Nat) : fnK Try.prog (kc (tabOf [e_eqScheme, e_heldScheme, leafE ce_specStandardScheme [true, false], leafE ce_implStandardScheme [true, false]]) (mtabOf [m_markScheme])) 40 (rnd [] 40 N) 4 [I a0, I a1, I a2, I a3]  done =
    (chk ((decide ((codeStandardScheme a0 a1 a2 a3) = 0)) && true) <|
    chk ((decide ((codeStandardScheme a0 a1 a2 a3) = 0)) && true) <|
    chk ((((Int.toNat a1) * (Int.toNat a2)) * (Int.toNat a3)) == (((Int.toNat a1) * (Int.toNat a2)) * (Int.toNat a3))) <|
    chk (decide ((0 + (((Int.toNat a1) * (Int.toNat a2)) * (Int.toNat a3))) ≤ (((Int.toNat a1) * (Int.toNat a2)) * (Int.toNat a3)))) <|
    chk ((((Int.toNat a1) * (Int.toNat a2)) * (Int.toNat a3)) == (((Int.toNat a1) * (Int.toNat a2)) * (Int.toNat a3))) <|
    chk (decide ((0 + (((Int.toNat a1) * (Int.toNat a2)) * (Int.toNat a3))) ≤ (((Int.toNat a1) * (Int.toNat a2)) * (Int.toNat a3)))) <|
    chk (decide ((((Int.toNat a1) * (Int.toNat a2)) * (Int.toNat a3)) ≤ 1048576)) <|
    bif (!(eqS (Sch.mk a0 a1 a2 a3 (((Int.toNat a1) * (Int.toNat a2)) * (Int.toNat a3)) (canonI (((Int.toNat a1) * (Int.toNat a2)) * (Int.toNat a3)) 27 (stdQ (Int.toNat a1) (Int.toNat a2) (Int.toNat a3)))) (Sch.mk a0 a1 a2 a3 (((Int.toNat a1) * (Int.toNat a2)) * (Int.toNat a3)) (canonI (((Int.toNat a1) * (Int.toNat a2)) * (Int.toNat a3)) 27 (stdQ (Int.toNat a1) (Int.toNat a2) (Int.toNat a3)))))) then (some ((AV.bool false), [], true)) else
    chk ((decide ((((Int.toNat a1) * (Int.toNat a2)) * (Int.toNat a3)) = (((Int.toNat a1) * (Int.toNat a2)) * (Int.toNat a3)))) && ((decide ((((Int.toNat a1) * (Int.toNat a2)) * (Int.toNat a3)) = (((Int.toNat a1) * (Int.toNat a2)) * (Int.toNat a3)))) && (true && (true && (true && ((decide ((((Int.toNat a1) * (Int.toNat a2)) * (Int.toNat a3)) ≤ 1048576)) && true)))))) <|
    chk ((((Int.toNat a1) * (Int.toNat a2)) * (Int.toNat a3)) == (((Int.toNat a1) * (Int.toNat a2)) * (Int.toNat a3))) <|
    chk (decide ((0 + (((Int.toNat a1) * (Int.toNat a2)) * (Int.toNat a3))) ≤ (((Int.toNat a1) * (Int.toNat a2)) * (Int.toNat a3)))) <|
    chk ((decide ((((Int.toNat a1) * (Int.toNat a2)) * (Int.toNat a3)) ≤ 1048576)) && true) <|
    bif (decide ((bif (heldB 1 (((Int.toNat a1) * (Int.toNat a2)) * (Int.toNat a3)) (canonI (((Int.toNat a1) * (Int.toNat a2)) * (Int.toNat a3)) 27 (markQ 1))) then (1 + (27 * (((((Int.toNat a1) * (Int.toNat a2)) * (Int.toNat a3)) : Nat) : Int))) else (-1)) < 0)) then (some ((AV.bool false), [], true)) else
    bif (!(decide ((bif (heldB 1 (((Int.toNat a1) * (Int.toNat a2)) * (Int.toNat a3)) (canonI (((Int.toNat a1) * (Int.toNat a2)) * (Int.toNat a3)) 27 (markQ 1))) then (1 + (27 * (((((Int.toNat a1) * (Int.toNat a2)) * (Int.toNat a3)) : Nat) : Int))) else (-1)) = (1 + (27 * (((((Int.toNat a1) * (Int.toNat a2)) * (Int.toNat a3)) : Nat) : Int)))))) then (some ((AV.bool false), [], true)) else
    chk ((decide ((codeStandardScheme a0 a1 a2 a3) = 0)) && true) <|
    chk ((((Int.toNat a1) * (Int.toNat a2)) * (Int.toNat a3)) == (((Int.toNat a1) * (Int.toNat a2)) * (Int.toNat a3))) <|
    chk (decide ((0 + (((Int.toNat a1) * (Int.toNat a2)) * (Int.toNat a3))) ≤ (((Int.toNat a1) * (Int.toNat a2)) * (Int.toNat a3)))) <|
    chk ((((Int.toNat a1) * (Int.toNat a2)) * (Int.toNat a3)) == (((Int.toNat a1) * (Int.toNat a2)) * (Int.toNat a3))) <|
    chk (decide ((0 + (((Int.toNat a1) * (Int.toNat a2)) * (Int.toNat a3))) ≤ (((Int.toNat a1) * (Int.toNat a2)) * (Int.toNat a3)))) <|
    chk (decide ((((Int.toNat a1) * (Int.toNat a2)) * (Int.toNat a3)) ≤ 1048576)) <|
    bif (!(eqS (Sch.mk a0 a1 a2 a3 (((Int.toNat a1) * (Int.toNat a2)) * (Int.toNat a3)) (canonI (((Int.toNat a1) * (Int.toNat a2)) * (Int.toNat a3)) 27 (stdQ (Int.toNat a1) (Int.toNat a2) (Int.toNat a3)))) (Sch.mk a0 a1 a2 a3 (((Int.toNat a1) * (Int.toNat a2)) * (Int.toNat a3)) (canonI (((Int.toNat a1) * (Int.toNat a2)) * (Int.toNat a3)) 27 (stdQ (Int.toNat a1) (Int.toNat a2) (Int.toNat a3)))))) then (some ((AV.bool false), [], true)) else
    chk ((((Int.toNat a1) * (Int.toNat a2)) * (Int.toNat a3)) == (((Int.toNat a1) * (Int.toNat a2)) * (Int.toNat a3))) <|
    chk (decide ((0 + (((Int.toNat a1) * (Int.toNat a2)) * (Int.toNat a3))) ≤ (((Int.toNat a1) * (Int.toNat a2)) * (Int.toNat a3)))) <|
    chk ((decide ((((Int.toNat a1) * (Int.toNat a2)) * (Int.toNat a3)) ≤ 1048576)) && true) <|
    bif (decide ((bif (heldB 1 (((Int.toNat a1) * (Int.toNat a2)) * (Int.toNat a3)) (canonI (((Int.toNat a1) * (Int.toNat a2)) * (Int.toNat a3)) 27 (markQ 1))) then (1 + (27 * (((((Int.toNat a1) * (Int.toNat a2)) * (Int.toNat a3)) : Nat) : Int))) else (-1)) < 0)) then (some ((AV.bool false), [], true)) else
    bif (!(decide ((bif (heldB 1 (((Int.toNat a1) * (Int.toNat a2)) * (Int.toNat a3)) (canonI (((Int.toNat a1) * (Int.toNat a2)) * (Int.toNat a3)) 27 (markQ 1))) then (1 + (27 * (((((Int.toNat a1) * (Int.toNat a2)) * (Int.toNat a3)) : Nat) : Int))) else (-1)) = (1 + (27 * (((((Int.toNat a1) * (Int.toNat a2)) * (Int.toNat a3)) : Nat) : Int)))))) then (some ((AV.bool false), [], true)) else
    some ((AV.bool true), [], true)) := by kernel_rfl

theorem slawStandardScheme_er (a0 : Int) (a1 : Int) (a2 : Int) (a3 : Int) (N : Nat) : fnK Try.prog (kc (tabOf [e_eqScheme, e_heldScheme, leafE ce_specStandardScheme [false], leafE ce_implStandardScheme [false]]) (mtabOf [m_markScheme])) 40 (rnd [] 40 N) 4 [I a0, I a1, I a2, I a3]  done =
    (chk ((!(decide ((codeStandardScheme a0 a1 a2 a3) = 0))) && true) <|
    chk ((!(decide ((codeStandardScheme a0 a1 a2 a3) = 0))) && true) <|
    bif (!(decide ((codeStandardScheme a0 a1 a2 a3) = (codeStandardScheme a0 a1 a2 a3)))) then (some ((AV.bool false), [], true)) else
    chk ((!(decide ((codeStandardScheme a0 a1 a2 a3) = 0))) && true) <|
    bif (!(decide ((codeStandardScheme a0 a1 a2 a3) = (codeStandardScheme a0 a1 a2 a3)))) then (some ((AV.bool false), [], true)) else
    some ((AV.bool true), [], true)) := by kernel_rfl

end Go.Proofs.Ytjdciikfbinchaa.Fn
