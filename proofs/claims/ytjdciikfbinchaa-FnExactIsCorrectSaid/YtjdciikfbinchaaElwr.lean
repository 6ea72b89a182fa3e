/- Equations of the abstract machine for some functions and their loops, printed by a program. -/
import Derived.Test.YtjdciikfbinchaaDa
import Derived.Test.YtjdciikfbinchaaDg
import Derived.Test.YtjdciikfbinchaaDwr
namespace Go.Proofs.Ytjdciikfbinchaa.Fn
open Go Go.Proofs.Ytjdciikfbinchaa.Abs
set_option maxRecDepth 100000
set_option linter.unusedVariables false
theorem slawCnt (p : Int) (r : Int) (k : Int) (c : Int) (n : Nat) (q : Nat → Nat → Int) (N : Nat) : fnK Try.prog (kc (tabOf [e_toScheme, e_eqScheme, e_specCountWrong, e_implCountWrong])) 40 (rnd [] 40 N) 9 [.agg [I p, I r, I k, I c, .vi .u8 27 n q]]  done =
    (bif (decide ((W (1048576 - ((n : Nat) : Int))) < 0)) then (some ((AV.bool true), [], true)) else
    bif (decide ((W (1048576 - ((n : Nat) : Int))) < 0)) then (some ((AV.bool true), [], true)) else
    bif (decide ((W (1048576 - ((n : Nat) : Int))) < 0)) then (some ((AV.bool true), [], true)) else
    chk (decide (n ≤ 1048576)) <|
    chk (n == n) <|
    chk (decide ((0 + n) ≤ n)) <|
    chk (decide (n ≤ 1048576)) <|
    chk (n == n) <|
    chk (decide ((0 + n) ≤ n)) <|
    bif (!(decide ((cntV p r k c n (canonI n 27 q)) = (cntV p r k c n (canonI n 27 q))))) then (some ((AV.bool false), [], true)) else
    bif (!(decide ((codeIs p r k c n (canonI n 27 q)) = (codeIs p r k c n (canonI n 27 q))))) then (some ((AV.bool false), [], true)) else
    chk (decide (n ≤ 1048576)) <|
    chk (n == n) <|
    chk (decide ((0 + n) ≤ n)) <|
    chk (n == n) <|
    chk (decide ((0 + n) ≤ n)) <|
    chk (decide (n ≤ 1048576)) <|
    bif (!(eqS (Sch.mk p r k c n (canonI n 27 q)) (Sch.mk p r k c n (canonI n 27 q)))) then (some ((AV.bool false), [], true)) else
    some ((AV.bool true), [], true)) := by kernel_rfl

theorem slawCor (p : Int) (r : Int) (k : Int) (c : Int) (n : Nat) (q : Nat → Nat → Int) (N : Nat) : fnK Try.prog (kc (tabOf [e_toScheme, e_eqScheme, e_specIsCorrect, e_implIsCorrect])) 40 (rnd [] 40 N) 10 [.agg [I p, I r, I k, I c, .vi .u8 27 n q]]  done =
    (bif (decide ((W (1048576 - ((n : Nat) : Int))) < 0)) then (some ((AV.bool true), [], true)) else
    bif (decide ((W (1048576 - ((n : Nat) : Int))) < 0)) then (some ((AV.bool true), [], true)) else
    bif (decide ((W (1048576 - ((n : Nat) : Int))) < 0)) then (some ((AV.bool true), [], true)) else
    chk (decide (n ≤ 1048576)) <|
    chk (n == n) <|
    chk (decide ((0 + n) ≤ n)) <|
    chk (decide (n ≤ 1048576)) <|
    chk (n == n) <|
    chk (decide ((0 + n) ≤ n)) <|
    bif (!((corV p r k c n (canonI n 27 q)) == (corV p r k c n (canonI n 27 q)))) then (some ((AV.bool false), [], true)) else
    bif (!(decide ((codeIs p r k c n (canonI n 27 q)) = (codeIs p r k c n (canonI n 27 q))))) then (some ((AV.bool false), [], true)) else
    chk (decide (n ≤ 1048576)) <|
    chk (n == n) <|
    chk (decide ((0 + n) ≤ n)) <|
    chk (n == n) <|
    chk (decide ((0 + n) ≤ n)) <|
    chk (decide (n ≤ 1048576)) <|
    bif (!(eqS (Sch.mk p r k c n (canonI n 27 q)) (Sch.mk p r k c n (canonI n 27 q)))) then (some ((AV.bool false), [], true)) else
    some ((AV.bool true), [], true)) := by kernel_rfl

end Go.Proofs.Ytjdciikfbinchaa.Fn
