/- Equations of the abstract machine for some functions and their loops, printed by a program. -/
import Derived.Test.YthbmlioknnhleaaDa
import Derived.Test.YthbmlioknnhleaaDk
import Derived.Test.YthbmlioknnhleaaDsort
namespace Go.Proofs.Ythbmlioknnhleaa.Fn
open Go Go.Proofs.Ythbmlioknnhleaa.Abs
set_option maxRecDepth 100000
set_option linter.unusedVariables false
theorem sl01Less (x : Nat → Int) (y : Nat → Int) (N : Nat) : fnK Try.prog (kc (tabOf [])) 40 (rnd [2, 3, 4, 5, 6, 7, 8] 12 N) 114 [.agg (cellsI .u8 27 x), .agg (cellsI .u8 27 y)]  done =
    (bif (!(decide ((x 0) = (y 0)))) then (some ((AV.bool (decide ((x 0) < (y 0)))), [], true)) else
    bif (!(decide ((x 1) = (y 1)))) then (some ((AV.bool (decide ((x 1) < (y 1)))), [], true)) else
    bif (!(decide ((x 2) = (y 2)))) then (some ((AV.bool (decide ((x 2) < (y 2)))), [], true)) else
    bif (!(decide ((x 3) = (y 3)))) then (some ((AV.bool (decide ((x 3) < (y 3)))), [], true)) else
    bif (!(decide ((x 4) = (y 4)))) then (some ((AV.bool (decide ((x 4) < (y 4)))), [], true)) else
    bif (!(decide ((x 5) = (y 5)))) then (some ((AV.bool (decide ((x 5) < (y 5)))), [], true)) else
    bif (!(decide ((x 6) = (y 6)))) then (some ((AV.bool (decide ((x 6) < (y 6)))), [], true)) else
    bif (!(decide ((x 7) = (y 7)))) then (some ((AV.bool (decide ((x 7) < (y 7)))), [], true)) else
    bif (!(decide ((x 8) = (y 8)))) then (some ((AV.bool (decide ((x 8) < (y 8)))), [], true)) else
    bif (!(decide ((x 9) = (y 9)))) then (some ((AV.bool (decide ((x 9) < (y 9)))), [], true)) else
    bif (!(decide ((x 10) = (y 10)))) then (some ((AV.bool (decide ((x 10) < (y 10)))), [], true)) else
    bif (!(decide ((x 11) = (y 11)))) then (some ((AV.bool (decide ((x 11) < (y 11)))), [], true)) else
    bif (!(decide ((x 12) = (y 12)))) then (some ((AV.bool (decide ((x 12) < (y 12)))), [], true)) else
    bif (!(decide ((x 13) = (y 13)))) then (some ((AV.bool (decide ((x 13) < (y 13)))), [], true)) else
    bif (!(decide ((x 14) = (y 14)))) then (some ((AV.bool (decide ((x 14) < (y 14)))), [], true)) else
    bif (!(decide ((x 15) = (y 15)))) then (some ((AV.bool (decide ((x 15) < (y 15)))), [], true)) else
    bif (!(decide ((x 16) = (y 16)))) then (some ((AV.bool (decide ((x 16) < (y 16)))), [], true)) else
    bif (!(decide ((x 17) = (y 17)))) then (some ((AV.bool (decide ((x 17) < (y 17)))), [], true)) else
    bif (!(decide ((x 18) = (y 18)))) then (some ((AV.bool (decide ((x 18) < (y 18)))), [], true)) else
    bif (!(decide ((x 19) = (y 19)))) then (some ((AV.bool (decide ((x 19) < (y 19)))), [], true)) else
    bif (!(decide ((x 20) = (y 20)))) then (some ((AV.bool (decide ((x 20) < (y 20)))), [], true)) else
    bif (!(decide ((x 21) = (y 21)))) then (some ((AV.bool (decide ((x 21) < (y 21)))), [], true)) else
    bif (!(decide ((x 22) = (y 22)))) then (some ((AV.bool (decide ((x 22) < (y 22)))), [], true)) else
    bif (!(decide ((x 23) = (y 23)))) then (some ((AV.bool (decide ((x 23) < (y 23)))), [], true)) else
    bif (!(decide ((x 24) = (y 24)))) then (some ((AV.bool (decide ((x 24) < (y 24)))), [], true)) else
    bif (!(decide ((x 25) = (y 25)))) then (some ((AV.bool (decide ((x 25) < (y 25)))), [], true)) else
    bif (!(decide ((x 26) = (y 26)))) then (some ((AV.bool (decide ((x 26) < (y 26)))), [], true)) else
    some ((AV.bool false), [], true)) := by kernel_rfl

end Go.Proofs.Ythbmlioknnhleaa.Fn
