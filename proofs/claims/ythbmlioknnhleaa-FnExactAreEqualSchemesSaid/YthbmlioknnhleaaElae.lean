/- Equations of the abstract machine for some functions and their loops, printed by a program. -/
import Derived.Test.YthbmlioknnhleaaDa
import Derived.Test.YthbmlioknnhleaaDg
import Derived.Test.YthbmlioknnhleaaDk
import Derived.Test.YthbmlioknnhleaaDsort
import Derived.Test.YthbmlioknnhleaaDss
import Derived.Test.YthbmlioknnhleaaDnmb
import Derived.Test.YthbmlioknnhleaaDsc
import Derived.Test.YthbmlioknnhleaaDae
namespace Go.Proofs.Ythbmlioknnhleaa.Fn
open Go Go.Proofs.Ythbmlioknnhleaa.Abs
set_option maxRecDepth 100000
set_option linter.unusedVariables false
theorem slawAe (p : Int) (r : Int) (k : Int) (c : Int) (n : Nat) (q : Nat → Nat → Int) (p' : Int) (r' : Int) (k' : Int) (c' : Int) (n' : Nat) (q' : Nat → Nat → Int) (N : Nat) : fnK Try.prog (kc (tabOf [e_toScheme, e_eqScheme, e_specAe, e_implAe])) 40 (rnd [] 40 N) 8 [.agg [I p, I r, I k, I c, .vi .u8 27 n q], .agg [I p', I r', I k', I c', .vi .u8 27 n' q']]  done =
    (bif (decide ((W (1048576 - ((n : Nat) : Int))) < 0)) then (some ((AV.bool true), [], true)) else
    bif (decide ((W (1048576 - ((n : Nat) : Int))) < 0)) then (some ((AV.bool true), [], true)) else
    bif (decide ((W (1048576 - ((n : Nat) : Int))) < 0)) then (some ((AV.bool true), [], true)) else
    bif (decide ((W ((W (1048576 - ((n : Nat) : Int))) - ((n' : Nat) : Int))) < 0)) then (some ((AV.bool true), [], true)) else
    bif (decide ((W ((W (1048576 - ((n : Nat) : Int))) - ((n' : Nat) : Int))) < 0)) then (some ((AV.bool true), [], true)) else
    bif (decide ((W ((W (1048576 - ((n : Nat) : Int))) - ((n' : Nat) : Int))) < 0)) then (some ((AV.bool true), [], true)) else
    chk (decide (n ≤ 1048576)) <|
    chk (decide (n' ≤ 1048576)) <|
    chk (n == n) <|
    chk (decide ((0 + n) ≤ n)) <|
    chk (n' == n') <|
    chk (decide ((0 + n') ≤ n')) <|
    chk ((rngB n (canonI n 27 q)) && (rngB n' (canonI n' 27 q'))) <|
    chk (decide (n ≤ 1048576)) <|
    chk (decide (n' ≤ 1048576)) <|
    chk (n == n) <|
    chk (decide ((0 + n) ≤ n)) <|
    chk (n' == n') <|
    chk (decide ((0 + n') ≤ n')) <|
    chk ((rngB n (canonI n 27 q)) && (rngB n' (canonI n' 27 q'))) <|
    bif (!((aeV (Sch.mk p r k c n (canonI n 27 q)) (Sch.mk p' r' k' c' n' (canonI n' 27 q'))) == (aeV (Sch.mk p r k c n (canonI n 27 q)) (Sch.mk p' r' k' c' n' (canonI n' 27 q'))))) then (some ((AV.bool false), [], true)) else
    bif (!(decide ((codeAe (Sch.mk p r k c n (canonI n 27 q)) (Sch.mk p' r' k' c' n' (canonI n' 27 q'))) = (codeAe (Sch.mk p r k c n (canonI n 27 q)) (Sch.mk p' r' k' c' n' (canonI n' 27 q')))))) then (some ((AV.bool false), [], true)) else
    chk (decide (n ≤ 1048576)) <|
    chk (n == n) <|
    chk (decide ((0 + n) ≤ n)) <|
    chk (n == n) <|
    chk (decide ((0 + n) ≤ n)) <|
    chk (decide (n ≤ 1048576)) <|
    bif (!(eqS (Sch.mk p r k c n (canonI n 27 q)) (Sch.mk p r k c n (canonI n 27 q)))) then (some ((AV.bool false), [], true)) else
    chk (decide (n' ≤ 1048576)) <|
    chk (n' == n') <|
    chk (decide ((0 + n') ≤ n')) <|
    chk (n' == n') <|
    chk (decide ((0 + n') ≤ n')) <|
    chk (decide (n' ≤ 1048576)) <|
    bif (!(eqS (Sch.mk p' r' k' c' n' (canonI n' 27 q')) (Sch.mk p' r' k' c' n' (canonI n' 27 q')))) then (some ((AV.bool false), [], true)) else
    some ((AV.bool true), [], true)) := by kernel_rfl

end Go.Proofs.Ythbmlioknnhleaa.Fn
