/- Equations of the abstract machine for some functions and their loops, printed by a program. -/
import Derived.Test.YthbmlioknnhleaaDsc
namespace Go.Proofs.Ythbmlioknnhleaa.Fn
open Go Go.Proofs.Ythbmlioknnhleaa.Abs
set_option maxRecDepth 100000
set_option linter.unusedVariables false
theorem slawScaledScheme_ok (p0 : Int) (r0 : Int) (k0 : Int) (c0 : Int) (n0 : Nat) (q0 : Nat → Nat → Int) (N : Nat) : fnK Try.prog (kc (tabOf [e_toScheme, e_eqScheme, e_heldScheme, leafE ce_specScaledScheme [true, false], leafE ce_implScaledScheme [true, false]]) (mtabOf [m_markScheme])) 40 (rnd [] 40 N) 9 [.agg [I p0, I r0, I k0, I c0, .vi .u8 27 n0 q0]]  done =
    (bif (decide ((W (1048576 - ((n0 : Nat) : Int))) < 0)) then (some ((AV.bool true), [], true)) else
    bif (decide ((W (1048576 - ((n0 : Nat) : Int))) < 0)) then (some ((AV.bool true), [], true)) else
    bif (decide ((W (1048576 - ((n0 : Nat) : Int))) < 0)) then (some ((AV.bool true), [], true)) else
    chk (decide (n0 ≤ 1048576)) <|
    chk (n0 == n0) <|
    chk (decide ((0 + n0) ≤ n0)) <|
    chk ((decide ((codeScaledScheme (Sch.mk p0 r0 k0 c0 n0 (canonI n0 27 q0))) = 0)) && (true && (rngB n0 (canonI n0 27 q0)))) <|
    chk (decide (n0 ≤ 1048576)) <|
    chk (n0 == n0) <|
    chk (decide ((0 + n0) ≤ n0)) <|
    chk ((decide ((codeScaledScheme (Sch.mk p0 r0 k0 c0 n0 (canonI n0 27 q0))) = 0)) && (true && (rngB n0 (canonI n0 27 q0)))) <|
    chk (n0 == n0) <|
    chk (decide ((0 + n0) ≤ n0)) <|
    chk (n0 == n0) <|
    chk (decide ((0 + n0) ≤ n0)) <|
    chk (decide (n0 ≤ 1048576)) <|
    bif (!(eqS (Sch.mk p0 r0 k0 c0 n0 (canonI n0 27 (sortQ n0 (fun i => (normF p0 (canonI n0 27 q0 i)))))) (Sch.mk p0 r0 k0 c0 n0 (canonI n0 27 (sortQ n0 (fun i => (normF p0 (canonI n0 27 q0 i)))))))) then (some ((AV.bool false), [], true)) else
    chk (decide (n0 ≤ 1048576)) <|
    chk (n0 == n0) <|
    chk (decide ((0 + n0) ≤ n0)) <|
    chk (n0 == n0) <|
    chk (decide ((0 + n0) ≤ n0)) <|
    chk (decide (n0 ≤ 1048576)) <|
    bif (!(eqS (Sch.mk p0 r0 k0 c0 n0 (canonI n0 27 q0)) (Sch.mk p0 r0 k0 c0 n0 (canonI n0 27 q0)))) then (some ((AV.bool false), [], true)) else
    chk ((decide (n0 = n0)) && ((decide (n0 = n0)) && (true && (true && (true && ((decide (n0 ≤ 1048576)) && true)))))) <|
    chk (n0 == n0) <|
    chk (decide ((0 + n0) ≤ n0)) <|
    chk (n0 == n0) <|
    chk (decide ((0 + n0) ≤ n0)) <|
    chk (decide (n0 ≤ 1048576)) <|
    bif (!(eqS (Sch.mk p0 r0 k0 c0 n0 (canonI n0 27 (sortQ n0 (fun i => (normF p0 (canonI n0 27 q0 i)))))) (Sch.mk p0 r0 k0 c0 n0 (canonI n0 27 (sortQ n0 (fun i => (normF p0 (canonI n0 27 q0 i)))))))) then (some ((AV.bool false), [], true)) else
    chk ((decide (n0 = n0)) && ((decide (n0 = n0)) && (true && (true && (true && ((decide (n0 ≤ 1048576)) && true)))))) <|
    chk (n0 == n0) <|
    chk (decide ((0 + n0) ≤ n0)) <|
    chk ((decide (n0 ≤ 1048576)) && true) <|
    bif (decide ((bif (heldB 1 n0 (canonI n0 27 (markQ 1))) then (1 + (27 * ((n0 : Nat) : Int))) else (-1)) < 0)) then (some ((AV.bool false), [], true)) else
    bif (!(decide ((bif (heldB 1 n0 (canonI n0 27 (markQ 1))) then (1 + (27 * ((n0 : Nat) : Int))) else (-1)) = (1 + (27 * ((n0 : Nat) : Int)))))) then (some ((AV.bool false), [], true)) else
    chk (decide (n0 ≤ 1048576)) <|
    chk (n0 == n0) <|
    chk (decide ((0 + n0) ≤ n0)) <|
    chk ((decide ((codeScaledScheme (Sch.mk p0 r0 k0 c0 n0 (canonI n0 27 q0))) = 0)) && (true && (rngB n0 (canonI n0 27 q0)))) <|
    chk (n0 == n0) <|
    chk (decide ((0 + n0) ≤ n0)) <|
    chk (n0 == n0) <|
    chk (decide ((0 + n0) ≤ n0)) <|
    chk (decide (n0 ≤ 1048576)) <|
    bif (!(eqS (Sch.mk p0 r0 k0 c0 n0 (canonI n0 27 (sortQ n0 (fun i => (normF p0 (canonI n0 27 q0 i)))))) (Sch.mk p0 r0 k0 c0 n0 (canonI n0 27 (sortQ n0 (fun i => (normF p0 (canonI n0 27 q0 i)))))))) then (some ((AV.bool false), [], true)) else
    chk (n0 == n0) <|
    chk (decide ((0 + n0) ≤ n0)) <|
    chk ((decide (n0 ≤ 1048576)) && true) <|
    bif (decide ((bif (heldB 1 n0 (canonI n0 27 (markQ 1))) then (1 + (27 * ((n0 : Nat) : Int))) else (-1)) < 0)) then (some ((AV.bool false), [], true)) else
    bif (!(decide ((bif (heldB 1 n0 (canonI n0 27 (markQ 1))) then (1 + (27 * ((n0 : Nat) : Int))) else (-1)) = (1 + (27 * ((n0 : Nat) : Int)))))) then (some ((AV.bool false), [], true)) else
    some ((AV.bool true), [], true)) := by kernel_rfl

theorem slawScaledScheme_er (p0 : Int) (r0 : Int) (k0 : Int) (c0 : Int) (n0 : Nat) (q0 : Nat → Nat → Int) (N : Nat) : fnK Try.prog (kc (tabOf [e_toScheme, e_eqScheme, e_heldScheme, leafE ce_specScaledScheme [false], leafE ce_implScaledScheme [false]]) (mtabOf [m_markScheme])) 40 (rnd [] 40 N) 9 [.agg [I p0, I r0, I k0, I c0, .vi .u8 27 n0 q0]]  done =
    (bif (decide ((W (1048576 - ((n0 : Nat) : Int))) < 0)) then (some ((AV.bool true), [], true)) else
    bif (decide ((W (1048576 - ((n0 : Nat) : Int))) < 0)) then (some ((AV.bool true), [], true)) else
    bif (decide ((W (1048576 - ((n0 : Nat) : Int))) < 0)) then (some ((AV.bool true), [], true)) else
    chk (decide (n0 ≤ 1048576)) <|
    chk (n0 == n0) <|
    chk (decide ((0 + n0) ≤ n0)) <|
    chk ((!(decide ((codeScaledScheme (Sch.mk p0 r0 k0 c0 n0 (canonI n0 27 q0))) = 0))) && true) <|
    chk (decide (n0 ≤ 1048576)) <|
    chk (n0 == n0) <|
    chk (decide ((0 + n0) ≤ n0)) <|
    chk ((!(decide ((codeScaledScheme (Sch.mk p0 r0 k0 c0 n0 (canonI n0 27 q0))) = 0))) && true) <|
    bif (!(decide ((codeScaledScheme (Sch.mk p0 r0 k0 c0 n0 (canonI n0 27 q0))) = (codeScaledScheme (Sch.mk p0 r0 k0 c0 n0 (canonI n0 27 q0)))))) then (some ((AV.bool false), [], true)) else
    chk (decide (n0 ≤ 1048576)) <|
    chk (n0 == n0) <|
    chk (decide ((0 + n0) ≤ n0)) <|
    chk (n0 == n0) <|
    chk (decide ((0 + n0) ≤ n0)) <|
    chk (decide (n0 ≤ 1048576)) <|
    bif (!(eqS (Sch.mk p0 r0 k0 c0 n0 (canonI n0 27 q0)) (Sch.mk p0 r0 k0 c0 n0 (canonI n0 27 q0)))) then (some ((AV.bool false), [], true)) else
    chk ((decide (n0 = n0)) && ((decide (n0 = n0)) && (true && (true && (true && ((decide (n0 ≤ 1048576)) && true)))))) <|
    bif (!(decide ((codeScaledScheme (Sch.mk p0 r0 k0 c0 n0 (canonI n0 27 q0))) = (codeScaledScheme (Sch.mk p0 r0 k0 c0 n0 (canonI n0 27 q0)))))) then (some ((AV.bool false), [], true)) else
    chk (decide (n0 ≤ 1048576)) <|
    chk (n0 == n0) <|
    chk (decide ((0 + n0) ≤ n0)) <|
    chk ((!(decide ((codeScaledScheme (Sch.mk p0 r0 k0 c0 n0 (canonI n0 27 q0))) = 0))) && true) <|
    bif (!(decide ((codeScaledScheme (Sch.mk p0 r0 k0 c0 n0 (canonI n0 27 q0))) = (codeScaledScheme (Sch.mk p0 r0 k0 c0 n0 (canonI n0 27 q0)))))) then (some ((AV.bool false), [], true)) else
    some ((AV.bool true), [], true)) := by kernel_rfl

end Go.Proofs.Ythbmlioknnhleaa.Fn
