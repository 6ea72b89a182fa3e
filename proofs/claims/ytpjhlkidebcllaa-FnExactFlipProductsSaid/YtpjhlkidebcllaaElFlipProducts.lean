/- Equations of the abstract machine for some functions and their loops, printed by a program. -/
import Derived.Test.YtpjhlkidebcllaaDplus
namespace Go.Proofs.Ytpjhlkidebcllaa.Fn
open Go Go.Proofs.Ytpjhlkidebcllaa.Abs
set_option maxRecDepth 100000
set_option linter.unusedVariables false
theorem slawFlipProducts_ok (p0 : Int) (r0 : Int) (k0 : Int) (c0 : Int) (n0 : Nat) (q0 : Nat → Nat → Int) (a1 : Int) (a2 : Int) (a3 : Int) (a4 : Int) (N : Nat) : fnK Try.prog (kc (tabOf [e_toScheme, e_eqScheme, e_heldScheme, leafE ce_specFlipProducts [true, false], leafE ce_implFlipProducts [true]]) (mtabOf [m_markSchemeC])) 40 (rnd [] 40 N) 13 [.agg [I p0, I r0, I k0, I c0, .vi .u8 27 n0 q0], I a1, I a2, I a3, I a4]  done =
    (bif (decide ((W (1048576 - ((n0 : Nat) : Int))) < 0)) then (some ((AV.bool true), [], true)) else
    bif (decide ((W (1048576 - ((n0 : Nat) : Int))) < 0)) then (some ((AV.bool true), [], true)) else
    bif (decide ((W (1048576 - ((n0 : Nat) : Int))) < 0)) then (some ((AV.bool true), [], true)) else
    chk (decide (n0 ≤ 1048576)) <|
    chk (n0 == n0) <|
    chk (decide ((0 + n0) ≤ n0)) <|
    chk ((decide ((codeFlipProducts (Sch.mk p0 r0 k0 c0 n0 (canonI n0 27 q0)) a1 a2 a3 a4) = 0)) && (true && (rngB n0 (canonI n0 27 q0)))) <|
    chk (decide (n0 ≤ 1048576)) <|
    chk (n0 == n0) <|
    chk (decide ((0 + n0) ≤ n0)) <|
    chk ((decide ((codeFlipProducts (Sch.mk p0 r0 k0 c0 n0 (canonI n0 27 q0)) a1 a2 a3 a4) = 0)) && (rngB n0 (canonI n0 27 q0))) <|
    chk (n0 == n0) <|
    chk (decide ((0 + (List.length (nzL n0 (flipQ p0 (Int.toNat a1) (Int.toNat a2) a3 a4 (canonI n0 27 q0))))) ≤ n0)) <|
    chk ((List.length (nzL n0 (flipQ p0 (Int.toNat a1) (Int.toNat a2) a3 a4 (canonI n0 27 q0)))) == (List.length (nzL n0 (flipQ p0 (Int.toNat a1) (Int.toNat a2) a3 a4 (canonI n0 27 q0))))) <|
    chk (decide ((0 + (List.length (nzL n0 (flipQ p0 (Int.toNat a1) (Int.toNat a2) a3 a4 (canonI n0 27 q0))))) ≤ (List.length (nzL n0 (flipQ p0 (Int.toNat a1) (Int.toNat a2) a3 a4 (canonI n0 27 q0)))))) <|
    chk (decide ((List.length (nzL n0 (flipQ p0 (Int.toNat a1) (Int.toNat a2) a3 a4 (canonI n0 27 q0)))) ≤ 1048576)) <|
    bif (!(eqS (Sch.mk p0 r0 k0 c0 (List.length (nzL n0 (flipQ p0 (Int.toNat a1) (Int.toNat a2) a3 a4 (canonI n0 27 q0)))) (canonI (List.length (nzL n0 (flipQ p0 (Int.toNat a1) (Int.toNat a2) a3 a4 (canonI n0 27 q0)))) 27 (roomQ (List.length (nzL n0 (flipQ p0 (Int.toNat a1) (Int.toNat a2) a3 a4 (canonI n0 27 q0)))) (keptQ n0 (flipQ p0 (Int.toNat a1) (Int.toNat a2) a3 a4 (canonI n0 27 q0)))))) (Sch.mk p0 r0 k0 c0 (List.length (nzL n0 (flipQ p0 (Int.toNat a1) (Int.toNat a2) a3 a4 (canonI n0 27 q0)))) (canonI (List.length (nzL n0 (flipQ p0 (Int.toNat a1) (Int.toNat a2) a3 a4 (canonI n0 27 q0)))) 27 (keptQ n0 (flipQ p0 (Int.toNat a1) (Int.toNat a2) a3 a4 (canonI n0 27 q0))))))) then (some ((AV.bool false), [], true)) else
    chk (decide (n0 ≤ 1048576)) <|
    chk (n0 == n0) <|
    chk (decide ((0 + n0) ≤ n0)) <|
    chk (n0 == n0) <|
    chk (decide ((0 + n0) ≤ n0)) <|
    chk (decide (n0 ≤ 1048576)) <|
    bif (!(eqS (Sch.mk p0 r0 k0 c0 n0 (canonI n0 27 q0)) (Sch.mk p0 r0 k0 c0 n0 (canonI n0 27 q0)))) then (some ((AV.bool false), [], true)) else
    chk ((decide (n0 ≤ n0)) && ((decide (n0 = n0)) && (true && (true && (true && ((decide (n0 ≤ 1048576)) && true)))))) <|
    chk (n0 == n0) <|
    chk (decide ((0 + (List.length (nzL n0 (flipQ p0 (Int.toNat a1) (Int.toNat a2) a3 a4 (canonI n0 27 q0))))) ≤ n0)) <|
    chk ((List.length (nzL n0 (flipQ p0 (Int.toNat a1) (Int.toNat a2) a3 a4 (canonI n0 27 q0)))) == (List.length (nzL n0 (flipQ p0 (Int.toNat a1) (Int.toNat a2) a3 a4 (canonI n0 27 q0))))) <|
    chk (decide ((0 + (List.length (nzL n0 (flipQ p0 (Int.toNat a1) (Int.toNat a2) a3 a4 (canonI n0 27 q0))))) ≤ (List.length (nzL n0 (flipQ p0 (Int.toNat a1) (Int.toNat a2) a3 a4 (canonI n0 27 q0)))))) <|
    chk (decide ((List.length (nzL n0 (flipQ p0 (Int.toNat a1) (Int.toNat a2) a3 a4 (canonI n0 27 q0)))) ≤ 1048576)) <|
    bif (!(eqS (Sch.mk p0 r0 k0 c0 (List.length (nzL n0 (flipQ p0 (Int.toNat a1) (Int.toNat a2) a3 a4 (canonI n0 27 q0)))) (canonI (List.length (nzL n0 (flipQ p0 (Int.toNat a1) (Int.toNat a2) a3 a4 (canonI n0 27 q0)))) 27 (roomQ (List.length (nzL n0 (flipQ p0 (Int.toNat a1) (Int.toNat a2) a3 a4 (canonI n0 27 q0)))) (keptQ n0 (flipQ p0 (Int.toNat a1) (Int.toNat a2) a3 a4 (canonI n0 27 q0)))))) (Sch.mk p0 r0 k0 c0 (List.length (nzL n0 (flipQ p0 (Int.toNat a1) (Int.toNat a2) a3 a4 (canonI n0 27 q0)))) (canonI (List.length (nzL n0 (flipQ p0 (Int.toNat a1) (Int.toNat a2) a3 a4 (canonI n0 27 q0)))) 27 (keptQ n0 (flipQ p0 (Int.toNat a1) (Int.toNat a2) a3 a4 (canonI n0 27 q0))))))) then (some ((AV.bool false), [], true)) else
    chk ((decide ((List.length (nzL n0 (flipQ p0 (Int.toNat a1) (Int.toNat a2) a3 a4 (canonI n0 27 q0)))) ≤ n0)) && ((decide (n0 = n0)) && (true && (true && (true && ((decide (n0 ≤ 1048576)) && true)))))) <|
    chk (n0 == n0) <|
    chk (decide ((0 + (List.length (nzL n0 (flipQ p0 (Int.toNat a1) (Int.toNat a2) a3 a4 (canonI n0 27 q0))))) ≤ n0)) <|
    chk ((decide ((List.length (nzL n0 (flipQ p0 (Int.toNat a1) (Int.toNat a2) a3 a4 (canonI n0 27 q0)))) ≤ 1048576)) && true) <|
    bif (decide ((bif (heldB 1 (List.length (nzL n0 (flipQ p0 (Int.toNat a1) (Int.toNat a2) a3 a4 (canonI n0 27 q0)))) (canonI (List.length (nzL n0 (flipQ p0 (Int.toNat a1) (Int.toNat a2) a3 a4 (canonI n0 27 q0)))) 27 (fun a c => (bif (decide (a < (List.length (nzL n0 (flipQ p0 (Int.toNat a1) (Int.toNat a2) a3 a4 (canonI n0 27 q0)))))) then (markQ 1 a c) else (canonI n0 27 (roomQ (List.length (nzL n0 (flipQ p0 (Int.toNat a1) (Int.toNat a2) a3 a4 (canonI n0 27 q0)))) (keptQ n0 (flipQ p0 (Int.toNat a1) (Int.toNat a2) a3 a4 (canonI n0 27 q0)))) a c))))) then (1 + (27 * (((List.length (nzL n0 (flipQ p0 (Int.toNat a1) (Int.toNat a2) a3 a4 (canonI n0 27 q0)))) : Nat) : Int))) else (-1)) < 0)) then (some ((AV.bool false), [], true)) else
    bif (!(decide ((bif (heldB 1 (List.length (nzL n0 (flipQ p0 (Int.toNat a1) (Int.toNat a2) a3 a4 (canonI n0 27 q0)))) (canonI (List.length (nzL n0 (flipQ p0 (Int.toNat a1) (Int.toNat a2) a3 a4 (canonI n0 27 q0)))) 27 (fun a c => (bif (decide (a < (List.length (nzL n0 (flipQ p0 (Int.toNat a1) (Int.toNat a2) a3 a4 (canonI n0 27 q0)))))) then (markQ 1 a c) else (canonI n0 27 (roomQ (List.length (nzL n0 (flipQ p0 (Int.toNat a1) (Int.toNat a2) a3 a4 (canonI n0 27 q0)))) (keptQ n0 (flipQ p0 (Int.toNat a1) (Int.toNat a2) a3 a4 (canonI n0 27 q0)))) a c))))) then (1 + (27 * (((List.length (nzL n0 (flipQ p0 (Int.toNat a1) (Int.toNat a2) a3 a4 (canonI n0 27 q0)))) : Nat) : Int))) else (-1)) = (1 + (27 * (((List.length (nzL n0 (flipQ p0 (Int.toNat a1) (Int.toNat a2) a3 a4 (canonI n0 27 q0)))) : Nat) : Int)))))) then (some ((AV.bool false), [], true)) else
    chk (decide (n0 ≤ 1048576)) <|
    chk (n0 == n0) <|
    chk (decide ((0 + n0) ≤ n0)) <|
    chk ((decide ((codeFlipProducts (Sch.mk p0 r0 k0 c0 n0 (canonI n0 27 q0)) a1 a2 a3 a4) = 0)) && (rngB n0 (canonI n0 27 q0))) <|
    chk (n0 == n0) <|
    chk (decide ((0 + (List.length (nzL n0 (flipQ p0 (Int.toNat a1) (Int.toNat a2) a3 a4 (canonI n0 27 q0))))) ≤ n0)) <|
    chk ((List.length (nzL n0 (flipQ p0 (Int.toNat a1) (Int.toNat a2) a3 a4 (canonI n0 27 q0)))) == (List.length (nzL n0 (flipQ p0 (Int.toNat a1) (Int.toNat a2) a3 a4 (canonI n0 27 q0))))) <|
    chk (decide ((0 + (List.length (nzL n0 (flipQ p0 (Int.toNat a1) (Int.toNat a2) a3 a4 (canonI n0 27 q0))))) ≤ (List.length (nzL n0 (flipQ p0 (Int.toNat a1) (Int.toNat a2) a3 a4 (canonI n0 27 q0)))))) <|
    chk (decide ((List.length (nzL n0 (flipQ p0 (Int.toNat a1) (Int.toNat a2) a3 a4 (canonI n0 27 q0)))) ≤ 1048576)) <|
    bif (!(eqS (Sch.mk p0 r0 k0 c0 (List.length (nzL n0 (flipQ p0 (Int.toNat a1) (Int.toNat a2) a3 a4 (canonI n0 27 q0)))) (canonI (List.length (nzL n0 (flipQ p0 (Int.toNat a1) (Int.toNat a2) a3 a4 (canonI n0 27 q0)))) 27 (roomQ (List.length (nzL n0 (flipQ p0 (Int.toNat a1) (Int.toNat a2) a3 a4 (canonI n0 27 q0)))) (keptQ n0 (flipQ p0 (Int.toNat a1) (Int.toNat a2) a3 a4 (canonI n0 27 q0)))))) (Sch.mk p0 r0 k0 c0 (List.length (nzL n0 (flipQ p0 (Int.toNat a1) (Int.toNat a2) a3 a4 (canonI n0 27 q0)))) (canonI (List.length (nzL n0 (flipQ p0 (Int.toNat a1) (Int.toNat a2) a3 a4 (canonI n0 27 q0)))) 27 (keptQ n0 (flipQ p0 (Int.toNat a1) (Int.toNat a2) a3 a4 (canonI n0 27 q0))))))) then (some ((AV.bool false), [], true)) else
    chk (n0 == n0) <|
    chk (decide ((0 + (List.length (nzL n0 (flipQ p0 (Int.toNat a1) (Int.toNat a2) a3 a4 (canonI n0 27 q0))))) ≤ n0)) <|
    chk ((decide ((List.length (nzL n0 (flipQ p0 (Int.toNat a1) (Int.toNat a2) a3 a4 (canonI n0 27 q0)))) ≤ 1048576)) && true) <|
    bif (decide ((bif (heldB 1 (List.length (nzL n0 (flipQ p0 (Int.toNat a1) (Int.toNat a2) a3 a4 (canonI n0 27 q0)))) (canonI (List.length (nzL n0 (flipQ p0 (Int.toNat a1) (Int.toNat a2) a3 a4 (canonI n0 27 q0)))) 27 (fun a c => (bif (decide (a < (List.length (nzL n0 (flipQ p0 (Int.toNat a1) (Int.toNat a2) a3 a4 (canonI n0 27 q0)))))) then (markQ 1 a c) else (canonI n0 27 (roomQ (List.length (nzL n0 (flipQ p0 (Int.toNat a1) (Int.toNat a2) a3 a4 (canonI n0 27 q0)))) (keptQ n0 (flipQ p0 (Int.toNat a1) (Int.toNat a2) a3 a4 (canonI n0 27 q0)))) a c))))) then (1 + (27 * (((List.length (nzL n0 (flipQ p0 (Int.toNat a1) (Int.toNat a2) a3 a4 (canonI n0 27 q0)))) : Nat) : Int))) else (-1)) < 0)) then (some ((AV.bool false), [], true)) else
    bif (!(decide ((bif (heldB 1 (List.length (nzL n0 (flipQ p0 (Int.toNat a1) (Int.toNat a2) a3 a4 (canonI n0 27 q0)))) (canonI (List.length (nzL n0 (flipQ p0 (Int.toNat a1) (Int.toNat a2) a3 a4 (canonI n0 27 q0)))) 27 (fun a c => (bif (decide (a < (List.length (nzL n0 (flipQ p0 (Int.toNat a1) (Int.toNat a2) a3 a4 (canonI n0 27 q0)))))) then (markQ 1 a c) else (canonI n0 27 (roomQ (List.length (nzL n0 (flipQ p0 (Int.toNat a1) (Int.toNat a2) a3 a4 (canonI n0 27 q0)))) (keptQ n0 (flipQ p0 (Int.toNat a1) (Int.toNat a2) a3 a4 (canonI n0 27 q0)))) a c))))) then (1 + (27 * (((List.length (nzL n0 (flipQ p0 (Int.toNat a1) (Int.toNat a2) a3 a4 (canonI n0 27 q0)))) : Nat) : Int))) else (-1)) = (1 + (27 * (((List.length (nzL n0 (flipQ p0 (Int.toNat a1) (Int.toNat a2) a3 a4 (canonI n0 27 q0)))) : Nat) : Int)))))) then (some ((AV.bool false), [], true)) else
    some ((AV.bool true), [], true)) := by kernel_rfl

theorem slawFlipProducts_er (p0 : Int) (r0 : Int) (k0 : Int) (c0 : Int) (n0 : Nat) (q0 : Nat → Nat → Int) (a1 : Int) (a2 : Int) (a3 : Int) (a4 : Int) (N : Nat) : fnK Try.prog (kc (tabOf [e_toScheme, e_eqScheme, e_heldScheme, leafE ce_specFlipProducts [false], leafE ce_implFlipProducts [false]]) (mtabOf [m_markSchemeC])) 40 (rnd [] 40 N) 13 [.agg [I p0, I r0, I k0, I c0, .vi .u8 27 n0 q0], I a1, I a2, I a3, I a4]  done =
    (bif (decide ((W (1048576 - ((n0 : Nat) : Int))) < 0)) then (some ((AV.bool true), [], true)) else
    bif (decide ((W (1048576 - ((n0 : Nat) : Int))) < 0)) then (some ((AV.bool true), [], true)) else
    bif (decide ((W (1048576 - ((n0 : Nat) : Int))) < 0)) then (some ((AV.bool true), [], true)) else
    chk (decide (n0 ≤ 1048576)) <|
    chk (n0 == n0) <|
    chk (decide ((0 + n0) ≤ n0)) <|
    chk ((!(decide ((codeFlipProducts (Sch.mk p0 r0 k0 c0 n0 (canonI n0 27 q0)) a1 a2 a3 a4) = 0))) && true) <|
    chk (decide (n0 ≤ 1048576)) <|
    chk (n0 == n0) <|
    chk (decide ((0 + n0) ≤ n0)) <|
    chk ((!(decide ((codeFlipProducts (Sch.mk p0 r0 k0 c0 n0 (canonI n0 27 q0)) a1 a2 a3 a4) = 0))) && true) <|
    bif (!(decide ((codeFlipProducts (Sch.mk p0 r0 k0 c0 n0 (canonI n0 27 q0)) a1 a2 a3 a4) = (codeFlipProducts (Sch.mk p0 r0 k0 c0 n0 (canonI n0 27 q0)) a1 a2 a3 a4)))) then (some ((AV.bool false), [], true)) else
    chk (decide (n0 ≤ 1048576)) <|
    chk (n0 == n0) <|
    chk (decide ((0 + n0) ≤ n0)) <|
    chk (n0 == n0) <|
    chk (decide ((0 + n0) ≤ n0)) <|
    chk (decide (n0 ≤ 1048576)) <|
    bif (!(eqS (Sch.mk p0 r0 k0 c0 n0 (canonI n0 27 q0)) (Sch.mk p0 r0 k0 c0 n0 (canonI n0 27 q0)))) then (some ((AV.bool false), [], true)) else
    chk ((decide (n0 ≤ n0)) && ((decide (n0 = n0)) && (true && (true && (true && ((decide (n0 ≤ 1048576)) && true)))))) <|
    bif (!(decide ((codeFlipProducts (Sch.mk p0 r0 k0 c0 n0 (canonI n0 27 q0)) a1 a2 a3 a4) = (codeFlipProducts (Sch.mk p0 r0 k0 c0 n0 (canonI n0 27 q0)) a1 a2 a3 a4)))) then (some ((AV.bool false), [], true)) else
    chk (decide (n0 ≤ 1048576)) <|
    chk (n0 == n0) <|
    chk (decide ((0 + n0) ≤ n0)) <|
    chk ((!(decide ((codeFlipProducts (Sch.mk p0 r0 k0 c0 n0 (canonI n0 27 q0)) a1 a2 a3 a4) = 0))) && true) <|
    bif (!(decide ((codeFlipProducts (Sch.mk p0 r0 k0 c0 n0 (canonI n0 27 q0)) a1 a2 a3 a4) = (codeFlipProducts (Sch.mk p0 r0 k0 c0 n0 (canonI n0 27 q0)) a1 a2 a3 a4)))) then (some ((AV.bool false), [], true)) else
    some ((AV.bool true), [], true)) := by kernel_rfl

end Go.Proofs.Ytpjhlkidebcllaa.Fn
