/- Equations of the abstract machine for some functions and their loops, printed by a program. -/
import Derived.Test.YthbmlioknnhleaaDa
import Derived.Test.YthbmlioknnhleaaDk
import Derived.Test.YthbmlioknnhleaaDlin
import Derived.Test.YthbmlioknnhleaaDlin2
namespace Go.Proofs.Ythbmlioknnhleaa.Fn
open Go Go.Proofs.Ythbmlioknnhleaa.Abs
set_option maxRecDepth 100000
set_option linter.unusedVariables false
theorem snormal (p : Int) (q : Nat → Int) (N : Nat) : fnK Try.prog (kc (tabOf [e_first, e_inverse, e_multiple])) 40 (rnd [] 40 N) 110 [I p, .agg (cellsI .u8 27 q)]  done =
    (chk ((primeB p) && (decide ((1 ≤ (leadQ (pA q))) ∧ ((leadQ (pA q)) < p)))) <|
    chk ((primeB p) && ((decide ((0 ≤ (invI p (leadQ (pA q)))) ∧ ((invI p (leadQ (pA q))) ≤ 100))) && (mod9 p (pA q)))) <|
    chk ((primeB p) && (decide ((1 ≤ (leadQ (pB q))) ∧ ((leadQ (pB q)) < p)))) <|
    chk ((primeB p) && ((decide ((0 ≤ (invI p (leadQ (pB q)))) ∧ ((invI p (leadQ (pB q))) ≤ 100))) && (mod9 p (pB q)))) <|
    chkn (decide (p = 0)) <|
    chk ((primeB p) && ((decide ((0 ≤ (Int.tmod (W ((leadQ (pA q)) * (leadQ (pB q)))) p)) ∧ ((Int.tmod (W ((leadQ (pA q)) * (leadQ (pB q)))) p) ≤ 100))) && (mod9 p (pC q)))) <|
    some ((AV.agg [B (mulQ p (invI p (leadQ (pA q))) (pA q) 0), B (mulQ p (invI p (leadQ (pA q))) (pA q) 1), B (mulQ p (invI p (leadQ (pA q))) (pA q) 2), B (mulQ p (invI p (leadQ (pA q))) (pA q) 3), B (mulQ p (invI p (leadQ (pA q))) (pA q) 4), B (mulQ p (invI p (leadQ (pA q))) (pA q) 5), B (mulQ p (invI p (leadQ (pA q))) (pA q) 6), B (mulQ p (invI p (leadQ (pA q))) (pA q) 7), B (mulQ p (invI p (leadQ (pA q))) (pA q) 8), B (mulQ p (invI p (leadQ (pB q))) (pB q) 0), B (mulQ p (invI p (leadQ (pB q))) (pB q) 1), B (mulQ p (invI p (leadQ (pB q))) (pB q) 2), B (mulQ p (invI p (leadQ (pB q))) (pB q) 3), B (mulQ p (invI p (leadQ (pB q))) (pB q) 4), B (mulQ p (invI p (leadQ (pB q))) (pB q) 5), B (mulQ p (invI p (leadQ (pB q))) (pB q) 6), B (mulQ p (invI p (leadQ (pB q))) (pB q) 7), B (mulQ p (invI p (leadQ (pB q))) (pB q) 8), B (mulQ p (Int.tmod (W ((leadQ (pA q)) * (leadQ (pB q)))) p) (pC q) 0), B (mulQ p (Int.tmod (W ((leadQ (pA q)) * (leadQ (pB q)))) p) (pC q) 1), B (mulQ p (Int.tmod (W ((leadQ (pA q)) * (leadQ (pB q)))) p) (pC q) 2), B (mulQ p (Int.tmod (W ((leadQ (pA q)) * (leadQ (pB q)))) p) (pC q) 3), B (mulQ p (Int.tmod (W ((leadQ (pA q)) * (leadQ (pB q)))) p) (pC q) 4), B (mulQ p (Int.tmod (W ((leadQ (pA q)) * (leadQ (pB q)))) p) (pC q) 5), B (mulQ p (Int.tmod (W ((leadQ (pA q)) * (leadQ (pB q)))) p) (pC q) 6), B (mulQ p (Int.tmod (W ((leadQ (pA q)) * (leadQ (pB q)))) p) (pC q) 7), B (mulQ p (Int.tmod (W ((leadQ (pA q)) * (leadQ (pB q)))) p) (pC q) 8)]), [], true)) := by kernel_rfl

theorem sl03Normal (p : Int) (q : Nat → Int) (N : Nat) : fnK Try.prog (kc (tabOf [e_l03Lead, e_l01Inverse, e_l01Scale])) 40 (rnd [] 40 N) 118 [I p, .agg (cellsI .u8 27 q)]  done =
    (chk ((primeB p) && (decide ((1 ≤ (leadQ (pA q))) ∧ ((leadQ (pA q)) < p)))) <|
    chk ((primeB p) && ((decide (((-100) ≤ (invI p (leadQ (pA q)))) ∧ ((invI p (leadQ (pA q))) ≤ 100))) && (mod9 p (pA q)))) <|
    chk ((primeB p) && (decide ((1 ≤ (leadQ (pB q))) ∧ ((leadQ (pB q)) < p)))) <|
    chk ((primeB p) && ((decide (((-100) ≤ (invI p (leadQ (pB q)))) ∧ ((invI p (leadQ (pB q))) ≤ 100))) && (mod9 p (pB q)))) <|
    chk ((primeB p) && ((decide (((-100) ≤ (W ((leadQ (pA q)) * (leadQ (pB q))))) ∧ ((W ((leadQ (pA q)) * (leadQ (pB q)))) ≤ 100))) && (mod9 p (pC q)))) <|
    some ((AV.agg [B (mulQ p (invI p (leadQ (pA q))) (pA q) 0), B (mulQ p (invI p (leadQ (pA q))) (pA q) 1), B (mulQ p (invI p (leadQ (pA q))) (pA q) 2), B (mulQ p (invI p (leadQ (pA q))) (pA q) 3), B (mulQ p (invI p (leadQ (pA q))) (pA q) 4), B (mulQ p (invI p (leadQ (pA q))) (pA q) 5), B (mulQ p (invI p (leadQ (pA q))) (pA q) 6), B (mulQ p (invI p (leadQ (pA q))) (pA q) 7), B (mulQ p (invI p (leadQ (pA q))) (pA q) 8), B (mulQ p (invI p (leadQ (pB q))) (pB q) 0), B (mulQ p (invI p (leadQ (pB q))) (pB q) 1), B (mulQ p (invI p (leadQ (pB q))) (pB q) 2), B (mulQ p (invI p (leadQ (pB q))) (pB q) 3), B (mulQ p (invI p (leadQ (pB q))) (pB q) 4), B (mulQ p (invI p (leadQ (pB q))) (pB q) 5), B (mulQ p (invI p (leadQ (pB q))) (pB q) 6), B (mulQ p (invI p (leadQ (pB q))) (pB q) 7), B (mulQ p (invI p (leadQ (pB q))) (pB q) 8), B (mulQ p (W ((leadQ (pA q)) * (leadQ (pB q)))) (pC q) 0), B (mulQ p (W ((leadQ (pA q)) * (leadQ (pB q)))) (pC q) 1), B (mulQ p (W ((leadQ (pA q)) * (leadQ (pB q)))) (pC q) 2), B (mulQ p (W ((leadQ (pA q)) * (leadQ (pB q)))) (pC q) 3), B (mulQ p (W ((leadQ (pA q)) * (leadQ (pB q)))) (pC q) 4), B (mulQ p (W ((leadQ (pA q)) * (leadQ (pB q)))) (pC q) 5), B (mulQ p (W ((leadQ (pA q)) * (leadQ (pB q)))) (pC q) 6), B (mulQ p (W ((leadQ (pA q)) * (leadQ (pB q)))) (pC q) 7), B (mulQ p (W ((leadQ (pA q)) * (leadQ (pB q)))) (pC q) 8)]), [], true)) := by kernel_rfl

end Go.Proofs.Ythbmlioknnhleaa.Fn
