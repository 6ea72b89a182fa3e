/- Equations of the abstract machine for some functions and their loops, printed by a program. -/
import Derived.Test.YtjdciikfbinchaaDres
namespace Go.Proofs.Ytjdciikfbinchaa.Fn
open Go Go.Proofs.Ytjdciikfbinchaa.Abs
set_option maxRecDepth 100000
set_option linter.unusedVariables false
theorem slawRestrictScheme_ok (p0 : Int) (r0 : Int) (k0 : Int) (c0 : Int) (n0 : Nat) (q0 : Nat → Nat → Int) (a1 : Int) (a2 : Int) (a3 : Int) (N : Nat) : fnK Try.prog (kc (tabOf [e_toScheme, e_eqScheme, e_heldScheme, leafE ce_specRestrictScheme [true, false], leafE ce_implRestrictScheme [true, false]]) (mtabOf [m_markScheme])) 40 (rnd [] 40 N) 13 [.agg [I p0, I r0, I k0, I c0, .vi .u8 27 n0 q0], I a1, I a2, I a3]  done =
    (bif (decide ((W (1048576 - ((n0 : Nat) : Int))) < 0)) then (some ((AV.bool true), [], true)) else
    bif (decide ((W (1048576 - ((n0 : Nat) : Int))) < 0)) then (some ((AV.bool true), [], true)) else
    bif (decide ((W (1048576 - ((n0 : Nat) : Int))) < 0)) then (some ((AV.bool true), [], true)) else
    chk (decide (n0 ≤ 1048576)) <|
    chk (n0 == n0) <|
    chk (decide ((0 + n0) ≤ n0)) <|
    chk ((decide ((codeRestrictScheme (Sch.mk p0 r0 k0 c0 n0 (canonI n0 27 q0)) a1 a2 a3) = 0)) && ((!(true && (decide ((List.length (restL (Sch.mk p0 r0 k0 c0 n0 (canonI n0 27 q0)) a1 a2 a3)) = 0)))) && true)) <|
    chk (decide (n0 ≤ 1048576)) <|
    chk (n0 == n0) <|
    chk (decide ((0 + n0) ≤ n0)) <|
    chk ((decide ((codeRestrictScheme (Sch.mk p0 r0 k0 c0 n0 (canonI n0 27 q0)) a1 a2 a3) = 0)) && ((!(true && (decide ((List.length (restL (Sch.mk p0 r0 k0 c0 n0 (canonI n0 27 q0)) a1 a2 a3)) = 0)))) && true)) <|
    chk ((List.length (restL (Sch.mk p0 r0 k0 c0 n0 (canonI n0 27 q0)) a1 a2 a3)) == (List.length (restL (Sch.mk p0 r0 k0 c0 n0 (canonI n0 27 q0)) a1 a2 a3))) <|
    chk (decide ((0 + (List.length (restL (Sch.mk p0 r0 k0 c0 n0 (canonI n0 27 q0)) a1 a2 a3))) ≤ (List.length (restL (Sch.mk p0 r0 k0 c0 n0 (canonI n0 27 q0)) a1 a2 a3)))) <|
    chk ((List.length (restL (Sch.mk p0 r0 k0 c0 n0 (canonI n0 27 q0)) a1 a2 a3)) == (List.length (restL (Sch.mk p0 r0 k0 c0 n0 (canonI n0 27 q0)) a1 a2 a3))) <|
    chk (decide ((0 + (List.length (restL (Sch.mk p0 r0 k0 c0 n0 (canonI n0 27 q0)) a1 a2 a3))) ≤ (List.length (restL (Sch.mk p0 r0 k0 c0 n0 (canonI n0 27 q0)) a1 a2 a3)))) <|
    chk (decide ((List.length (restL (Sch.mk p0 r0 k0 c0 n0 (canonI n0 27 q0)) a1 a2 a3)) ≤ 1048576)) <|
    bif (!(eqS (Sch.mk p0 a1 a2 a3 (List.length (restL (Sch.mk p0 r0 k0 c0 n0 (canonI n0 27 q0)) a1 a2 a3)) (canonI (List.length (restL (Sch.mk p0 r0 k0 c0 n0 (canonI n0 27 q0)) a1 a2 a3)) 27 (fun i => (restF k0 c0 a1 a2 a3 (canonI n0 27 q0 (List.getD (restL (Sch.mk p0 r0 k0 c0 n0 (canonI n0 27 q0)) a1 a2 a3) i 0)))))) (Sch.mk p0 a1 a2 a3 (List.length (restL (Sch.mk p0 r0 k0 c0 n0 (canonI n0 27 q0)) a1 a2 a3)) (canonI (List.length (restL (Sch.mk p0 r0 k0 c0 n0 (canonI n0 27 q0)) a1 a2 a3)) 27 (fun i => (restF k0 c0 a1 a2 a3 (canonI n0 27 q0 (List.getD (restL (Sch.mk p0 r0 k0 c0 n0 (canonI n0 27 q0)) a1 a2 a3) i 0)))))))) then (some ((AV.bool false), [], true)) else
    chk (decide (n0 ≤ 1048576)) <|
    chk (n0 == n0) <|
    chk (decide ((0 + n0) ≤ n0)) <|
    chk (n0 == n0) <|
    chk (decide ((0 + n0) ≤ n0)) <|
    chk (decide (n0 ≤ 1048576)) <|
    bif (!(eqS (Sch.mk p0 r0 k0 c0 n0 (canonI n0 27 q0)) (Sch.mk p0 r0 k0 c0 n0 (canonI n0 27 q0)))) then (some ((AV.bool false), [], true)) else
    chk ((decide (n0 = n0)) && ((decide (n0 = n0)) && (true && (true && (true && ((decide (n0 ≤ 1048576)) && true)))))) <|
    chk ((List.length (restL (Sch.mk p0 r0 k0 c0 n0 (canonI n0 27 q0)) a1 a2 a3)) == (List.length (restL (Sch.mk p0 r0 k0 c0 n0 (canonI n0 27 q0)) a1 a2 a3))) <|
    chk (decide ((0 + (List.length (restL (Sch.mk p0 r0 k0 c0 n0 (canonI n0 27 q0)) a1 a2 a3))) ≤ (List.length (restL (Sch.mk p0 r0 k0 c0 n0 (canonI n0 27 q0)) a1 a2 a3)))) <|
    chk ((List.length (restL (Sch.mk p0 r0 k0 c0 n0 (canonI n0 27 q0)) a1 a2 a3)) == (List.length (restL (Sch.mk p0 r0 k0 c0 n0 (canonI n0 27 q0)) a1 a2 a3))) <|
    chk (decide ((0 + (List.length (restL (Sch.mk p0 r0 k0 c0 n0 (canonI n0 27 q0)) a1 a2 a3))) ≤ (List.length (restL (Sch.mk p0 r0 k0 c0 n0 (canonI n0 27 q0)) a1 a2 a3)))) <|
    chk (decide ((List.length (restL (Sch.mk p0 r0 k0 c0 n0 (canonI n0 27 q0)) a1 a2 a3)) ≤ 1048576)) <|
    bif (!(eqS (Sch.mk p0 a1 a2 a3 (List.length (restL (Sch.mk p0 r0 k0 c0 n0 (canonI n0 27 q0)) a1 a2 a3)) (canonI (List.length (restL (Sch.mk p0 r0 k0 c0 n0 (canonI n0 27 q0)) a1 a2 a3)) 27 (fun i => (restF k0 c0 a1 a2 a3 (canonI n0 27 q0 (List.getD (restL (Sch.mk p0 r0 k0 c0 n0 (canonI n0 27 q0)) a1 a2 a3) i 0)))))) (Sch.mk p0 a1 a2 a3 (List.length (restL (Sch.mk p0 r0 k0 c0 n0 (canonI n0 27 q0)) a1 a2 a3)) (canonI (List.length (restL (Sch.mk p0 r0 k0 c0 n0 (canonI n0 27 q0)) a1 a2 a3)) 27 (fun i => (restF k0 c0 a1 a2 a3 (canonI n0 27 q0 (List.getD (restL (Sch.mk p0 r0 k0 c0 n0 (canonI n0 27 q0)) a1 a2 a3) i 0)))))))) then (some ((AV.bool false), [], true)) else
    chk ((decide ((List.length (restL (Sch.mk p0 r0 k0 c0 n0 (canonI n0 27 q0)) a1 a2 a3)) = (List.length (restL (Sch.mk p0 r0 k0 c0 n0 (canonI n0 27 q0)) a1 a2 a3)))) && ((decide ((List.length (restL (Sch.mk p0 r0 k0 c0 n0 (canonI n0 27 q0)) a1 a2 a3)) = (List.length (restL (Sch.mk p0 r0 k0 c0 n0 (canonI n0 27 q0)) a1 a2 a3)))) && (true && (true && (true && ((decide ((List.length (restL (Sch.mk p0 r0 k0 c0 n0 (canonI n0 27 q0)) a1 a2 a3)) ≤ 1048576)) && true)))))) <|
    chk ((List.length (restL (Sch.mk p0 r0 k0 c0 n0 (canonI n0 27 q0)) a1 a2 a3)) == (List.length (restL (Sch.mk p0 r0 k0 c0 n0 (canonI n0 27 q0)) a1 a2 a3))) <|
    chk (decide ((0 + (List.length (restL (Sch.mk p0 r0 k0 c0 n0 (canonI n0 27 q0)) a1 a2 a3))) ≤ (List.length (restL (Sch.mk p0 r0 k0 c0 n0 (canonI n0 27 q0)) a1 a2 a3)))) <|
    chk ((decide ((List.length (restL (Sch.mk p0 r0 k0 c0 n0 (canonI n0 27 q0)) a1 a2 a3)) ≤ 1048576)) && true) <|
    bif (decide ((bif (heldB 1 (List.length (restL (Sch.mk p0 r0 k0 c0 n0 (canonI n0 27 q0)) a1 a2 a3)) (canonI (List.length (restL (Sch.mk p0 r0 k0 c0 n0 (canonI n0 27 q0)) a1 a2 a3)) 27 (markQ 1))) then (1 + (27 * (((List.length (restL (Sch.mk p0 r0 k0 c0 n0 (canonI n0 27 q0)) a1 a2 a3)) : Nat) : Int))) else (-1)) < 0)) then (some ((AV.bool false), [], true)) else
    bif (!(decide ((bif (heldB 1 (List.length (restL (Sch.mk p0 r0 k0 c0 n0 (canonI n0 27 q0)) a1 a2 a3)) (canonI (List.length (restL (Sch.mk p0 r0 k0 c0 n0 (canonI n0 27 q0)) a1 a2 a3)) 27 (markQ 1))) then (1 + (27 * (((List.length (restL (Sch.mk p0 r0 k0 c0 n0 (canonI n0 27 q0)) a1 a2 a3)) : Nat) : Int))) else (-1)) = (1 + (27 * (((List.length (restL (Sch.mk p0 r0 k0 c0 n0 (canonI n0 27 q0)) a1 a2 a3)) : Nat) : Int)))))) then (some ((AV.bool false), [], true)) else
    chk (decide (n0 ≤ 1048576)) <|
    chk (n0 == n0) <|
    chk (decide ((0 + n0) ≤ n0)) <|
    chk ((decide ((codeRestrictScheme (Sch.mk p0 r0 k0 c0 n0 (canonI n0 27 q0)) a1 a2 a3) = 0)) && ((!(true && (decide ((List.length (restL (Sch.mk p0 r0 k0 c0 n0 (canonI n0 27 q0)) a1 a2 a3)) = 0)))) && true)) <|
    chk ((List.length (restL (Sch.mk p0 r0 k0 c0 n0 (canonI n0 27 q0)) a1 a2 a3)) == (List.length (restL (Sch.mk p0 r0 k0 c0 n0 (canonI n0 27 q0)) a1 a2 a3))) <|
    chk (decide ((0 + (List.length (restL (Sch.mk p0 r0 k0 c0 n0 (canonI n0 27 q0)) a1 a2 a3))) ≤ (List.length (restL (Sch.mk p0 r0 k0 c0 n0 (canonI n0 27 q0)) a1 a2 a3)))) <|
    chk ((List.length (restL (Sch.mk p0 r0 k0 c0 n0 (canonI n0 27 q0)) a1 a2 a3)) == (List.length (restL (Sch.mk p0 r0 k0 c0 n0 (canonI n0 27 q0)) a1 a2 a3))) <|
    chk (decide ((0 + (List.length (restL (Sch.mk p0 r0 k0 c0 n0 (canonI n0 27 q0)) a1 a2 a3))) ≤ (List.length (restL (Sch.mk p0 r0 k0 c0 n0 (canonI n0 27 q0)) a1 a2 a3)))) <|
    chk (decide ((List.length (restL (Sch.mk p0 r0 k0 c0 n0 (canonI n0 27 q0)) a1 a2 a3)) ≤ 1048576)) <|
    bif (!(eqS (Sch.mk p0 a1 a2 a3 (List.length (restL (Sch.mk p0 r0 k0 c0 n0 (canonI n0 27 q0)) a1 a2 a3)) (canonI (List.length (restL (Sch.mk p0 r0 k0 c0 n0 (canonI n0 27 q0)) a1 a2 a3)) 27 (fun i => (restF k0 c0 a1 a2 a3 (canonI n0 27 q0 (List.getD (restL (Sch.mk p0 r0 k0 c0 n0 (canonI n0 27 q0)) a1 a2 a3) i 0)))))) (Sch.mk p0 a1 a2 a3 (List.length (restL (Sch.mk p0 r0 k0 c0 n0 (canonI n0 27 q0)) a1 a2 a3)) (canonI (List.length (restL (Sch.mk p0 r0 k0 c0 n0 (canonI n0 27 q0)) a1 a2 a3)) 27 (fun i => (restF k0 c0 a1 a2 a3 (canonI n0 27 q0 (List.getD (restL (Sch.mk p0 r0 k0 c0 n0 (canonI n0 27 q0)) a1 a2 a3) i 0)))))))) then (some ((AV.bool false), [], true)) else
    chk ((List.length (restL (Sch.mk p0 r0 k0 c0 n0 (canonI n0 27 q0)) a1 a2 a3)) == (List.length (restL (Sch.mk p0 r0 k0 c0 n0 (canonI n0 27 q0)) a1 a2 a3))) <|
    chk (decide ((0 + (List.length (restL (Sch.mk p0 r0 k0 c0 n0 (canonI n0 27 q0)) a1 a2 a3))) ≤ (List.length (restL (Sch.mk p0 r0 k0 c0 n0 (canonI n0 27 q0)) a1 a2 a3)))) <|
    chk ((decide ((List.length (restL (Sch.mk p0 r0 k0 c0 n0 (canonI n0 27 q0)) a1 a2 a3)) ≤ 1048576)) && true) <|
    bif (decide ((bif (heldB 1 (List.length (restL (Sch.mk p0 r0 k0 c0 n0 (canonI n0 27 q0)) a1 a2 a3)) (canonI (List.length (restL (Sch.mk p0 r0 k0 c0 n0 (canonI n0 27 q0)) a1 a2 a3)) 27 (markQ 1))) then (1 + (27 * (((List.length (restL (Sch.mk p0 r0 k0 c0 n0 (canonI n0 27 q0)) a1 a2 a3)) : Nat) : Int))) else (-1)) < 0)) then (some ((AV.bool false), [], true)) else
    bif (!(decide ((bif (heldB 1 (List.length (restL (Sch.mk p0 r0 k0 c0 n0 (canonI n0 27 q0)) a1 a2 a3)) (canonI (List.length (restL (Sch.mk p0 r0 k0 c0 n0 (canonI n0 27 q0)) a1 a2 a3)) 27 (markQ 1))) then (1 + (27 * (((List.length (restL (Sch.mk p0 r0 k0 c0 n0 (canonI n0 27 q0)) a1 a2 a3)) : Nat) : Int))) else (-1)) = (1 + (27 * (((List.length (restL (Sch.mk p0 r0 k0 c0 n0 (canonI n0 27 q0)) a1 a2 a3)) : Nat) : Int)))))) then (some ((AV.bool false), [], true)) else
    some ((AV.bool true), [], true)) := by kernel_rfl

theorem slawRestrictScheme_er (p0 : Int) (r0 : Int) (k0 : Int) (c0 : Int) (n0 : Nat) (q0 : Nat → Nat → Int) (a1 : Int) (a2 : Int) (a3 : Int) (N : Nat) : fnK Try.prog (kc (tabOf [e_toScheme, e_eqScheme, e_heldScheme, leafE ce_specRestrictScheme [false], leafE ce_implRestrictScheme [false]]) (mtabOf [m_markScheme])) 40 (rnd [] 40 N) 13 [.agg [I p0, I r0, I k0, I c0, .vi .u8 27 n0 q0], I a1, I a2, I a3]  done =
    (bif (decide ((W (1048576 - ((n0 : Nat) : Int))) < 0)) then (some ((AV.bool true), [], true)) else
    bif (decide ((W (1048576 - ((n0 : Nat) : Int))) < 0)) then (some ((AV.bool true), [], true)) else
    bif (decide ((W (1048576 - ((n0 : Nat) : Int))) < 0)) then (some ((AV.bool true), [], true)) else
    chk (decide (n0 ≤ 1048576)) <|
    chk (n0 == n0) <|
    chk (decide ((0 + n0) ≤ n0)) <|
    chk ((!(decide ((codeRestrictScheme (Sch.mk p0 r0 k0 c0 n0 (canonI n0 27 q0)) a1 a2 a3) = 0))) && true) <|
    chk (decide (n0 ≤ 1048576)) <|
    chk (n0 == n0) <|
    chk (decide ((0 + n0) ≤ n0)) <|
    chk ((!(decide ((codeRestrictScheme (Sch.mk p0 r0 k0 c0 n0 (canonI n0 27 q0)) a1 a2 a3) = 0))) && true) <|
    bif (!(decide ((codeRestrictScheme (Sch.mk p0 r0 k0 c0 n0 (canonI n0 27 q0)) a1 a2 a3) = (codeRestrictScheme (Sch.mk p0 r0 k0 c0 n0 (canonI n0 27 q0)) a1 a2 a3)))) then (some ((AV.bool false), [], true)) else
    chk (decide (n0 ≤ 1048576)) <|
    chk (n0 == n0) <|
    chk (decide ((0 + n0) ≤ n0)) <|
    chk (n0 == n0) <|
    chk (decide ((0 + n0) ≤ n0)) <|
    chk (decide (n0 ≤ 1048576)) <|
    bif (!(eqS (Sch.mk p0 r0 k0 c0 n0 (canonI n0 27 q0)) (Sch.mk p0 r0 k0 c0 n0 (canonI n0 27 q0)))) then (some ((AV.bool false), [], true)) else
    chk ((decide (n0 = n0)) && ((decide (n0 = n0)) && (true && (true && (true && ((decide (n0 ≤ 1048576)) && true)))))) <|
    bif (!(decide ((codeRestrictScheme (Sch.mk p0 r0 k0 c0 n0 (canonI n0 27 q0)) a1 a2 a3) = (codeRestrictScheme (Sch.mk p0 r0 k0 c0 n0 (canonI n0 27 q0)) a1 a2 a3)))) then (some ((AV.bool false), [], true)) else
    chk (decide (n0 ≤ 1048576)) <|
    chk (n0 == n0) <|
    chk (decide ((0 + n0) ≤ n0)) <|
    chk ((!(decide ((codeRestrictScheme (Sch.mk p0 r0 k0 c0 n0 (canonI n0 27 q0)) a1 a2 a3) = 0))) && true) <|
    bif (!(decide ((codeRestrictScheme (Sch.mk p0 r0 k0 c0 n0 (canonI n0 27 q0)) a1 a2 a3) = (codeRestrictScheme (Sch.mk p0 r0 k0 c0 n0 (canonI n0 27 q0)) a1 a2 a3)))) then (some ((AV.bool false), [], true)) else
    some ((AV.bool true), [], true)) := by kernel_rfl

theorem slawRestrictScheme_ze (p0 : Int) (r0 : Int) (k0 : Int) (c0 : Int) (n0 : Nat) (q0 : Nat → Nat → Int) (a1 : Int) (a2 : Int) (a3 : Int) (N : Nat) : fnK Try.prog (kc (tabOf [e_toScheme, e_eqScheme, e_heldScheme, leafE ce_specRestrictScheme [true, true], leafE ce_implRestrictScheme [true, true]]) (mtabOf [m_markScheme])) 40 (rnd [] 40 N) 13 [.agg [I p0, I r0, I k0, I c0, .vi .u8 27 n0 q0], I a1, I a2, I a3]  done =
    (bif (decide ((W (1048576 - ((n0 : Nat) : Int))) < 0)) then (some ((AV.bool true), [], true)) else
    bif (decide ((W (1048576 - ((n0 : Nat) : Int))) < 0)) then (some ((AV.bool true), [], true)) else
    bif (decide ((W (1048576 - ((n0 : Nat) : Int))) < 0)) then (some ((AV.bool true), [], true)) else
    chk (decide (n0 ≤ 1048576)) <|
    chk (n0 == n0) <|
    chk (decide ((0 + n0) ≤ n0)) <|
    chk ((decide ((codeRestrictScheme (Sch.mk p0 r0 k0 c0 n0 (canonI n0 27 q0)) a1 a2 a3) = 0)) && ((true && (decide ((List.length (restL (Sch.mk p0 r0 k0 c0 n0 (canonI n0 27 q0)) a1 a2 a3)) = 0))) && true)) <|
    chk (decide (n0 ≤ 1048576)) <|
    chk (n0 == n0) <|
    chk (decide ((0 + n0) ≤ n0)) <|
    chk ((decide ((codeRestrictScheme (Sch.mk p0 r0 k0 c0 n0 (canonI n0 27 q0)) a1 a2 a3) = 0)) && ((true && (decide ((List.length (restL (Sch.mk p0 r0 k0 c0 n0 (canonI n0 27 q0)) a1 a2 a3)) = 0))) && true)) <|
    bif (!(eqS (Sch.mk p0 a1 a2 a3 0 (fun a a4 => 1)) (Sch.mk p0 a1 a2 a3 0 (fun a a4 => 1)))) then (some ((AV.bool false), [], true)) else
    chk (decide (n0 ≤ 1048576)) <|
    chk (n0 == n0) <|
    chk (decide ((0 + n0) ≤ n0)) <|
    chk (n0 == n0) <|
    chk (decide ((0 + n0) ≤ n0)) <|
    chk (decide (n0 ≤ 1048576)) <|
    bif (!(eqS (Sch.mk p0 r0 k0 c0 n0 (canonI n0 27 q0)) (Sch.mk p0 r0 k0 c0 n0 (canonI n0 27 q0)))) then (some ((AV.bool false), [], true)) else
    chk ((decide (n0 = n0)) && ((decide (n0 = n0)) && (true && (true && (true && ((decide (n0 ≤ 1048576)) && true)))))) <|
    bif (!(eqS (Sch.mk p0 a1 a2 a3 0 (fun a a4 => 1)) (Sch.mk p0 a1 a2 a3 0 (fun a a4 => 1)))) then (some ((AV.bool false), [], true)) else
    chk (decide (n0 ≤ 1048576)) <|
    chk (n0 == n0) <|
    chk (decide ((0 + n0) ≤ n0)) <|
    chk ((decide ((codeRestrictScheme (Sch.mk p0 r0 k0 c0 n0 (canonI n0 27 q0)) a1 a2 a3) = 0)) && ((true && (decide ((List.length (restL (Sch.mk p0 r0 k0 c0 n0 (canonI n0 27 q0)) a1 a2 a3)) = 0))) && true)) <|
    bif (!(eqS (Sch.mk p0 a1 a2 a3 0 (fun a a4 => 1)) (Sch.mk p0 a1 a2 a3 0 (fun a a4 => 1)))) then (some ((AV.bool false), [], true)) else
    some ((AV.bool true), [], true)) := by kernel_rfl

end Go.Proofs.Ytjdciikfbinchaa.Fn
