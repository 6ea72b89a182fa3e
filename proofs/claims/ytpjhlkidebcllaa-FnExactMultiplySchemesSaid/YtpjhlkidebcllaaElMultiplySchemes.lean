/- Equations of the abstract machine for some functions and their loops, printed by a program. -/
import Derived.Test.YtpjhlkidebcllaaDmul
namespace Go.Proofs.Ytpjhlkidebcllaa.Fn
open Go Go.Proofs.Ytpjhlkidebcllaa.Abs
set_option maxRecDepth 100000
set_option linter.unusedVariables false
theorem slawMultiplySchemes_ok (p0 : Int) (r0 : Int) (k0 : Int) (c0 : Int) (n0 : Nat) (q0 : Nat → Nat → Int) (p1 : Int) (r1 : Int) (k1 : Int) (c1 : Int) (n1 : Nat) (q1 : Nat → Nat → Int) (N : Nat) : fnK Try.prog (kc (tabOf [e_toScheme, e_eqScheme, e_heldScheme, leafE ce_specMultiplySchemes [true, false], leafE ce_implMultiplySchemes [true, false]]) (mtabOf [m_markScheme])) 40 (rnd [] 40 N) 4 [.agg [I p0, I r0, I k0, I c0, .vi .u8 27 n0 q0], .agg [I p1, I r1, I k1, I c1, .vi .u8 27 n1 q1]]  done =
    (bif (decide ((W (1048576 - ((n0 : Nat) : Int))) < 0)) then (some ((AV.bool true), [], true)) else
    bif (decide ((W (1048576 - ((n0 : Nat) : Int))) < 0)) then (some ((AV.bool true), [], true)) else
    bif (decide ((W (1048576 - ((n0 : Nat) : Int))) < 0)) then (some ((AV.bool true), [], true)) else
    bif (decide ((W ((W (1048576 - ((n0 : Nat) : Int))) - ((n1 : Nat) : Int))) < 0)) then (some ((AV.bool true), [], true)) else
    bif (decide ((W ((W (1048576 - ((n0 : Nat) : Int))) - ((n1 : Nat) : Int))) < 0)) then (some ((AV.bool true), [], true)) else
    bif (decide ((W ((W (1048576 - ((n0 : Nat) : Int))) - ((n1 : Nat) : Int))) < 0)) then (some ((AV.bool true), [], true)) else
    chk (decide (n0 ≤ 1048576)) <|
    chk (decide (n1 ≤ 1048576)) <|
    chk (n0 == n0) <|
    chk (decide ((0 + n0) ≤ n0)) <|
    chk (n1 == n1) <|
    chk (decide ((0 + n1) ≤ n1)) <|
    chk ((decide ((codeMultiplySchemes (Sch.mk p0 r0 k0 c0 n0 (canonI n0 27 q0)) (Sch.mk p1 r1 k1 c1 n1 (canonI n1 27 q1))) = 0)) && ((!(true && (decide ((n0 * n1) = 0)))) && ((rngB n0 (canonI n0 27 q0)) && (rngB n1 (canonI n1 27 q1))))) <|
    chk (decide (n0 ≤ 1048576)) <|
    chk (decide (n1 ≤ 1048576)) <|
    chk (n0 == n0) <|
    chk (decide ((0 + n0) ≤ n0)) <|
    chk (n1 == n1) <|
    chk (decide ((0 + n1) ≤ n1)) <|
    chk ((decide ((codeMultiplySchemes (Sch.mk p0 r0 k0 c0 n0 (canonI n0 27 q0)) (Sch.mk p1 r1 k1 c1 n1 (canonI n1 27 q1))) = 0)) && ((!(true && (decide ((n0 * n1) = 0)))) && ((rngB n0 (canonI n0 27 q0)) && (rngB n1 (canonI n1 27 q1))))) <|
    chk ((n0 * n1) == (n0 * n1)) <|
    chk (decide ((0 + (n0 * n1)) ≤ (n0 * n1))) <|
    chk ((n0 * n1) == (n0 * n1)) <|
    chk (decide ((0 + (n0 * n1)) ≤ (n0 * n1))) <|
    chk (decide ((n0 * n1) ≤ 1048576)) <|
    bif (!(eqS (Sch.mk p0 (r0 * r1) (k0 * k1) (c0 * c1) (n0 * n1) (canonI (n0 * n1) 27 (fun i => (mulF p0 r0 k0 c0 r1 k1 c1 (canonI n0 27 q0 (i / n1)) (canonI n1 27 q1 (i % n1)))))) (Sch.mk p0 (r0 * r1) (k0 * k1) (c0 * c1) (n0 * n1) (canonI (n0 * n1) 27 (fun i => (mulF p0 r0 k0 c0 r1 k1 c1 (canonI n0 27 q0 (i / n1)) (canonI n1 27 q1 (i % n1)))))))) then (some ((AV.bool false), [], true)) else
    chk (decide (n0 ≤ 1048576)) <|
    chk (n0 == n0) <|
    chk (decide ((0 + n0) ≤ n0)) <|
    chk (n0 == n0) <|
    chk (decide ((0 + n0) ≤ n0)) <|
    chk (decide (n0 ≤ 1048576)) <|
    bif (!(eqS (Sch.mk p0 r0 k0 c0 n0 (canonI n0 27 q0)) (Sch.mk p0 r0 k0 c0 n0 (canonI n0 27 q0)))) then (some ((AV.bool false), [], true)) else
    chk (decide (n1 ≤ 1048576)) <|
    chk (n1 == n1) <|
    chk (decide ((0 + n1) ≤ n1)) <|
    chk (n1 == n1) <|
    chk (decide ((0 + n1) ≤ n1)) <|
    chk (decide (n1 ≤ 1048576)) <|
    bif (!(eqS (Sch.mk p1 r1 k1 c1 n1 (canonI n1 27 q1)) (Sch.mk p1 r1 k1 c1 n1 (canonI n1 27 q1)))) then (some ((AV.bool false), [], true)) else
    chk ((decide (n0 = n0)) && ((decide (n0 = n0)) && (true && (true && (true && ((decide (n0 ≤ 1048576)) && true)))))) <|
    chk ((decide (n1 = n1)) && ((decide (n1 = n1)) && (true && (true && (true && ((decide (n1 ≤ 1048576)) && (true && (decide ((1 + (27 * ((n0 : Nat) : Int))) ≤ 1099511627776))))))))) <|
    chk ((n0 * n1) == (n0 * n1)) <|
    chk (decide ((0 + (n0 * n1)) ≤ (n0 * n1))) <|
    chk ((n0 * n1) == (n0 * n1)) <|
    chk (decide ((0 + (n0 * n1)) ≤ (n0 * n1))) <|
    chk (decide ((n0 * n1) ≤ 1048576)) <|
    bif (!(eqS (Sch.mk p0 (r0 * r1) (k0 * k1) (c0 * c1) (n0 * n1) (canonI (n0 * n1) 27 (fun i => (mulF p0 r0 k0 c0 r1 k1 c1 (canonI n0 27 q0 (i / n1)) (canonI n1 27 q1 (i % n1)))))) (Sch.mk p0 (r0 * r1) (k0 * k1) (c0 * c1) (n0 * n1) (canonI (n0 * n1) 27 (fun i => (mulF p0 r0 k0 c0 r1 k1 c1 (canonI n0 27 q0 (i / n1)) (canonI n1 27 q1 (i % n1)))))))) then (some ((AV.bool false), [], true)) else
    chk ((decide ((n0 * n1) = (n0 * n1))) && ((decide ((n0 * n1) = (n0 * n1))) && (true && (true && (true && ((decide ((n0 * n1) ≤ 1048576)) && true)))))) <|
    chk ((n0 * n1) == (n0 * n1)) <|
    chk (decide ((0 + (n0 * n1)) ≤ (n0 * n1))) <|
    chk ((decide ((n0 * n1) ≤ 1048576)) && true) <|
    bif (decide ((bif (heldB 1 (n0 * n1) (canonI (n0 * n1) 27 (markQ 1))) then (1 + (27 * (((n0 * n1) : Nat) : Int))) else (-1)) < 0)) then (some ((AV.bool false), [], true)) else
    bif (!(decide ((bif (heldB 1 (n0 * n1) (canonI (n0 * n1) 27 (markQ 1))) then (1 + (27 * (((n0 * n1) : Nat) : Int))) else (-1)) = (1 + (27 * (((n0 * n1) : Nat) : Int)))))) then (some ((AV.bool false), [], true)) else
    chk (decide (n0 ≤ 1048576)) <|
    chk (decide (n1 ≤ 1048576)) <|
    chk (n0 == n0) <|
    chk (decide ((0 + n0) ≤ n0)) <|
    chk (n1 == n1) <|
    chk (decide ((0 + n1) ≤ n1)) <|
    chk ((decide ((codeMultiplySchemes (Sch.mk p0 r0 k0 c0 n0 (canonI n0 27 q0)) (Sch.mk p1 r1 k1 c1 n1 (canonI n1 27 q1))) = 0)) && ((!(true && (decide ((n0 * n1) = 0)))) && ((rngB n0 (canonI n0 27 q0)) && (rngB n1 (canonI n1 27 q1))))) <|
    chk ((n0 * n1) == (n0 * n1)) <|
    chk (decide ((0 + (n0 * n1)) ≤ (n0 * n1))) <|
    chk ((n0 * n1) == (n0 * n1)) <|
    chk (decide ((0 + (n0 * n1)) ≤ (n0 * n1))) <|
    chk (decide ((n0 * n1) ≤ 1048576)) <|
    bif (!(eqS (Sch.mk p0 (r0 * r1) (k0 * k1) (c0 * c1) (n0 * n1) (canonI (n0 * n1) 27 (fun i => (mulF p0 r0 k0 c0 r1 k1 c1 (canonI n0 27 q0 (i / n1)) (canonI n1 27 q1 (i % n1)))))) (Sch.mk p0 (r0 * r1) (k0 * k1) (c0 * c1) (n0 * n1) (canonI (n0 * n1) 27 (fun i => (mulF p0 r0 k0 c0 r1 k1 c1 (canonI n0 27 q0 (i / n1)) (canonI n1 27 q1 (i % n1)))))))) then (some ((AV.bool false), [], true)) else
    chk ((n0 * n1) == (n0 * n1)) <|
    chk (decide ((0 + (n0 * n1)) ≤ (n0 * n1))) <|
    chk ((decide ((n0 * n1) ≤ 1048576)) && true) <|
    bif (decide ((bif (heldB 1 (n0 * n1) (canonI (n0 * n1) 27 (markQ 1))) then (1 + (27 * (((n0 * n1) : Nat) : Int))) else (-1)) < 0)) then (some ((AV.bool false), [], true)) else
    bif (!(decide ((bif (heldB 1 (n0 * n1) (canonI (n0 * n1) 27 (markQ 1))) then (1 + (27 * (((n0 * n1) : Nat) : Int))) else (-1)) = (1 + (27 * (((n0 * n1) : Nat) : Int)))))) then (some ((AV.bool false), [], true)) else
    some ((AV.bool true), [], true)) := by kernel_rfl

theorem slawMultiplySchemes_er (p0 : Int) (r0 : Int) (k0 : Int) (c0 : Int) (n0 : Nat) (q0 : Nat → Nat → Int) (p1 : Int) (r1 : Int) (k1 : Int) (c1 : Int) (n1 : Nat) (q1 : Nat → Nat → Int) (N : Nat) : fnK Try.prog (kc (tabOf [e_toScheme, e_eqScheme, e_heldScheme, leafE ce_specMultiplySchemes [false], leafE ce_implMultiplySchemes [false]]) (mtabOf [m_markScheme])) 40 (rnd [] 40 N) 4 [.agg [I p0, I r0, I k0, I c0, .vi .u8 27 n0 q0], .agg [I p1, I r1, I k1, I c1, .vi .u8 27 n1 q1]]  done =
    (bif (decide ((W (1048576 - ((n0 : Nat) : Int))) < 0)) then (some ((AV.bool true), [], true)) else
    bif (decide ((W (1048576 - ((n0 : Nat) : Int))) < 0)) then (some ((AV.bool true), [], true)) else
    bif (decide ((W (1048576 - ((n0 : Nat) : Int))) < 0)) then (some ((AV.bool true), [], true)) else
    bif (decide ((W ((W (1048576 - ((n0 : Nat) : Int))) - ((n1 : Nat) : Int))) < 0)) then (some ((AV.bool true), [], true)) else
    bif (decide ((W ((W (1048576 - ((n0 : Nat) : Int))) - ((n1 : Nat) : Int))) < 0)) then (some ((AV.bool true), [], true)) else
    bif (decide ((W ((W (1048576 - ((n0 : Nat) : Int))) - ((n1 : Nat) : Int))) < 0)) then (some ((AV.bool true), [], true)) else
    chk (decide (n0 ≤ 1048576)) <|
    chk (decide (n1 ≤ 1048576)) <|
    chk (n0 == n0) <|
    chk (decide ((0 + n0) ≤ n0)) <|
    chk (n1 == n1) <|
    chk (decide ((0 + n1) ≤ n1)) <|
    chk ((!(decide ((codeMultiplySchemes (Sch.mk p0 r0 k0 c0 n0 (canonI n0 27 q0)) (Sch.mk p1 r1 k1 c1 n1 (canonI n1 27 q1))) = 0))) && true) <|
    chk (decide (n0 ≤ 1048576)) <|
    chk (decide (n1 ≤ 1048576)) <|
    chk (n0 == n0) <|
    chk (decide ((0 + n0) ≤ n0)) <|
    chk (n1 == n1) <|
    chk (decide ((0 + n1) ≤ n1)) <|
    chk ((!(decide ((codeMultiplySchemes (Sch.mk p0 r0 k0 c0 n0 (canonI n0 27 q0)) (Sch.mk p1 r1 k1 c1 n1 (canonI n1 27 q1))) = 0))) && true) <|
    bif (!(decide ((codeMultiplySchemes (Sch.mk p0 r0 k0 c0 n0 (canonI n0 27 q0)) (Sch.mk p1 r1 k1 c1 n1 (canonI n1 27 q1))) = (codeMultiplySchemes (Sch.mk p0 r0 k0 c0 n0 (canonI n0 27 q0)) (Sch.mk p1 r1 k1 c1 n1 (canonI n1 27 q1)))))) then (some ((AV.bool false), [], true)) else
    chk (decide (n0 ≤ 1048576)) <|
    chk (n0 == n0) <|
    chk (decide ((0 + n0) ≤ n0)) <|
    chk (n0 == n0) <|
    chk (decide ((0 + n0) ≤ n0)) <|
    chk (decide (n0 ≤ 1048576)) <|
    bif (!(eqS (Sch.mk p0 r0 k0 c0 n0 (canonI n0 27 q0)) (Sch.mk p0 r0 k0 c0 n0 (canonI n0 27 q0)))) then (some ((AV.bool false), [], true)) else
    chk (decide (n1 ≤ 1048576)) <|
    chk (n1 == n1) <|
    chk (decide ((0 + n1) ≤ n1)) <|
    chk (n1 == n1) <|
    chk (decide ((0 + n1) ≤ n1)) <|
    chk (decide (n1 ≤ 1048576)) <|
    bif (!(eqS (Sch.mk p1 r1 k1 c1 n1 (canonI n1 27 q1)) (Sch.mk p1 r1 k1 c1 n1 (canonI n1 27 q1)))) then (some ((AV.bool false), [], true)) else
    chk ((decide (n0 = n0)) && ((decide (n0 = n0)) && (true && (true && (true && ((decide (n0 ≤ 1048576)) && true)))))) <|
    chk ((decide (n1 = n1)) && ((decide (n1 = n1)) && (true && (true && (true && ((decide (n1 ≤ 1048576)) && (true && (decide ((1 + (27 * ((n0 : Nat) : Int))) ≤ 1099511627776))))))))) <|
    bif (!(decide ((codeMultiplySchemes (Sch.mk p0 r0 k0 c0 n0 (canonI n0 27 q0)) (Sch.mk p1 r1 k1 c1 n1 (canonI n1 27 q1))) = (codeMultiplySchemes (Sch.mk p0 r0 k0 c0 n0 (canonI n0 27 q0)) (Sch.mk p1 r1 k1 c1 n1 (canonI n1 27 q1)))))) then (some ((AV.bool false), [], true)) else
    chk (decide (n0 ≤ 1048576)) <|
    chk (decide (n1 ≤ 1048576)) <|
    chk (n0 == n0) <|
    chk (decide ((0 + n0) ≤ n0)) <|
    chk (n1 == n1) <|
    chk (decide ((0 + n1) ≤ n1)) <|
    chk ((!(decide ((codeMultiplySchemes (Sch.mk p0 r0 k0 c0 n0 (canonI n0 27 q0)) (Sch.mk p1 r1 k1 c1 n1 (canonI n1 27 q1))) = 0))) && true) <|
    bif (!(decide ((codeMultiplySchemes (Sch.mk p0 r0 k0 c0 n0 (canonI n0 27 q0)) (Sch.mk p1 r1 k1 c1 n1 (canonI n1 27 q1))) = (codeMultiplySchemes (Sch.mk p0 r0 k0 c0 n0 (canonI n0 27 q0)) (Sch.mk p1 r1 k1 c1 n1 (canonI n1 27 q1)))))) then (some ((AV.bool false), [], true)) else
    some ((AV.bool true), [], true)) := by kernel_rfl

theorem slawMultiplySchemes_ze (p0 : Int) (r0 : Int) (k0 : Int) (c0 : Int) (n0 : Nat) (q0 : Nat → Nat → Int) (p1 : Int) (r1 : Int) (k1 : Int) (c1 : Int) (n1 : Nat) (q1 : Nat → Nat → Int) (N : Nat) : fnK Try.prog (kc (tabOf [e_toScheme, e_eqScheme, e_heldScheme, leafE ce_specMultiplySchemes [true, true], leafE ce_implMultiplySchemes [true, true]]) (mtabOf [m_markScheme])) 40 (rnd [] 40 N) 4 [.agg [I p0, I r0, I k0, I c0, .vi .u8 27 n0 q0], .agg [I p1, I r1, I k1, I c1, .vi .u8 27 n1 q1]]  done =
    (bif (decide ((W (1048576 - ((n0 : Nat) : Int))) < 0)) then (some ((AV.bool true), [], true)) else
    bif (decide ((W (1048576 - ((n0 : Nat) : Int))) < 0)) then (some ((AV.bool true), [], true)) else
    bif (decide ((W (1048576 - ((n0 : Nat) : Int))) < 0)) then (some ((AV.bool true), [], true)) else
    bif (decide ((W ((W (1048576 - ((n0 : Nat) : Int))) - ((n1 : Nat) : Int))) < 0)) then (some ((AV.bool true), [], true)) else
    bif (decide ((W ((W (1048576 - ((n0 : Nat) : Int))) - ((n1 : Nat) : Int))) < 0)) then (some ((AV.bool true), [], true)) else
    bif (decide ((W ((W (1048576 - ((n0 : Nat) : Int))) - ((n1 : Nat) : Int))) < 0)) then (some ((AV.bool true), [], true)) else
    chk (decide (n0 ≤ 1048576)) <|
    chk (decide (n1 ≤ 1048576)) <|
    chk (n0 == n0) <|
    chk (decide ((0 + n0) ≤ n0)) <|
    chk (n1 == n1) <|
    chk (decide ((0 + n1) ≤ n1)) <|
    chk ((decide ((codeMultiplySchemes (Sch.mk p0 r0 k0 c0 n0 (canonI n0 27 q0)) (Sch.mk p1 r1 k1 c1 n1 (canonI n1 27 q1))) = 0)) && ((true && (decide ((n0 * n1) = 0))) && ((rngB n0 (canonI n0 27 q0)) && (rngB n1 (canonI n1 27 q1))))) <|
    chk (decide (n0 ≤ 1048576)) <|
    chk (decide (n1 ≤ 1048576)) <|
    chk (n0 == n0) <|
    chk (decide ((0 + n0) ≤ n0)) <|
    chk (n1 == n1) <|
    chk (decide ((0 + n1) ≤ n1)) <|
    chk ((decide ((codeMultiplySchemes (Sch.mk p0 r0 k0 c0 n0 (canonI n0 27 q0)) (Sch.mk p1 r1 k1 c1 n1 (canonI n1 27 q1))) = 0)) && ((true && (decide ((n0 * n1) = 0))) && ((rngB n0 (canonI n0 27 q0)) && (rngB n1 (canonI n1 27 q1))))) <|
    bif (!(eqS (Sch.mk p0 (r0 * r1) (k0 * k1) (c0 * c1) 0 (fun a a1 => 1)) (Sch.mk p0 (r0 * r1) (k0 * k1) (c0 * c1) 0 (fun a a1 => 1)))) then (some ((AV.bool false), [], true)) else
    chk (decide (n0 ≤ 1048576)) <|
    chk (n0 == n0) <|
    chk (decide ((0 + n0) ≤ n0)) <|
    chk (n0 == n0) <|
    chk (decide ((0 + n0) ≤ n0)) <|
    chk (decide (n0 ≤ 1048576)) <|
    bif (!(eqS (Sch.mk p0 r0 k0 c0 n0 (canonI n0 27 q0)) (Sch.mk p0 r0 k0 c0 n0 (canonI n0 27 q0)))) then (some ((AV.bool false), [], true)) else
    chk (decide (n1 ≤ 1048576)) <|
    chk (n1 == n1) <|
    chk (decide ((0 + n1) ≤ n1)) <|
    chk (n1 == n1) <|
    chk (decide ((0 + n1) ≤ n1)) <|
    chk (decide (n1 ≤ 1048576)) <|
    bif (!(eqS (Sch.mk p1 r1 k1 c1 n1 (canonI n1 27 q1)) (Sch.mk p1 r1 k1 c1 n1 (canonI n1 27 q1)))) then (some ((AV.bool false), [], true)) else
    chk ((decide (n0 = n0)) && ((decide (n0 = n0)) && (true && (true && (true && ((decide (n0 ≤ 1048576)) && true)))))) <|
    chk ((decide (n1 = n1)) && ((decide (n1 = n1)) && (true && (true && (true && ((decide (n1 ≤ 1048576)) && (true && (decide ((1 + (27 * ((n0 : Nat) : Int))) ≤ 1099511627776))))))))) <|
    bif (!(eqS (Sch.mk p0 (r0 * r1) (k0 * k1) (c0 * c1) 0 (fun a a1 => 1)) (Sch.mk p0 (r0 * r1) (k0 * k1) (c0 * c1) 0 (fun a a1 => 1)))) then (some ((AV.bool false), [], true)) else
    chk (decide (n0 ≤ 1048576)) <|
    chk (decide (n1 ≤ 1048576)) <|
    chk (n0 == n0) <|
    chk (decide ((0 + n0) ≤ n0)) <|
    chk (n1 == n1) <|
    chk (decide ((0 + n1) ≤ n1)) <|
    chk ((decide ((codeMultiplySchemes (Sch.mk p0 r0 k0 c0 n0 (canonI n0 27 q0)) (Sch.mk p1 r1 k1 c1 n1 (canonI n1 27 q1))) = 0)) && ((true && (decide ((n0 * n1) = 0))) && ((rngB n0 (canonI n0 27 q0)) && (rngB n1 (canonI n1 27 q1))))) <|
    bif (!(eqS (Sch.mk p0 (r0 * r1) (k0 * k1) (c0 * c1) 0 (fun a a1 => 1)) (Sch.mk p0 (r0 * r1) (k0 * k1) (c0 * c1) 0 (fun a a1 => 1)))) then (some ((AV.bool false), [], true)) else
    some ((AV.bool true), [], true)) := by kernel_rfl

end Go.Proofs.Ytpjhlkidebcllaa.Fn
