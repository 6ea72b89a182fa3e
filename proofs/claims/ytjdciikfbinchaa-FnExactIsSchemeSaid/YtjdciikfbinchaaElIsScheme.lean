/- Equations of the abstract machine for some functions and their loops, printed by a program. -/
import Derived.Test.YtjdciikfbinchaaDa
namespace Go.Proofs.Ytjdciikfbinchaa.Fn
open Go Go.Proofs.Ytjdciikfbinchaa.Abs
set_option maxRecDepth 100000
set_option linter.unusedVariables false
theorem slawIsScheme (p : Int) (r : Int) (k : Int) (c : Int) (n : Nat) (q : Nat → Nat → Int) (N : Nat) : fnK Try.prog (kc (tabOf [e_l01Is, e_IsScheme, e_toProductS, e_eqProductS])) 40 (rnd [] 40 N) 5 [.agg [I p, I r, I k, I c, .vi .u8 27 n q]] done =
    (bif (decide ((W (1048576 - ((n : Nat) : Int))) < 0)) then (some ((AV.bool true), [], true)) else
    bif (decide ((W (1048576 - ((n : Nat) : Int))) < 0)) then (some ((AV.bool true), [], true)) else
    bif (decide ((W (1048576 - ((n : Nat) : Int))) < 0)) then (some ((AV.bool true), [], true)) else
    chk (decide (n ≤ 1048576)) <|
    chk (n == n) <|
    chk (decide ((0 + n) ≤ n)) <|
    chk (decide (n ≤ 1048576)) <|
    chk (n == n) <|
    chk (decide ((0 + n) ≤ n)) <|
    bif (!((isB p r k c n (canonI n 27 q)) == (isB p r k c n (canonI n 27 q)))) then (some ((AV.bool false), [], true)) else
    chk (decide (n ≤ 1048576)) <|
    bif (!(decide (p = p))) then (some ((AV.bool false), [], true)) else
    bif (!(decide (r = r))) then (some ((AV.bool false), [], true)) else
    bif (!(decide (k = k))) then (some ((AV.bool false), [], true)) else
    bif (!(decide (c = c))) then (some ((AV.bool false), [], true)) else
    chk (n == n) <|
    chk (decide ((0 + n) ≤ n)) <|
    chk (n == n) <|
    chk (decide ((0 + n) ≤ n)) <|
    chk (decide (n ≤ 1048576)) <|
    bif (!(eqPs n (canonI n 27 q) n (canonI n 27 q))) then (some ((AV.bool false), [], true)) else
    some ((AV.bool true), [], true)) := by kernel_rfl

end Go.Proofs.Ytjdciikfbinchaa.Fn
