/- Equations of the abstract machine for some functions and their loops, printed by a program. -/
import Derived.Test.YthbmlioknnhleaaDa
import Derived.Test.YthbmlioknnhleaaDk
import Derived.Test.YthbmlioknnhleaaDsort
namespace Go.Proofs.Ythbmlioknnhleaa.Fn
open Go Go.Proofs.Ythbmlioknnhleaa.Abs
set_option maxRecDepth 100000
set_option linter.unusedVariables false
theorem scmpByte (a : Int) (b : Int) (N : Nat) : fnK Try.prog (kc (tabOf [])) 40 (rnd [] 40 N) 179 [B a, B b]  done =
    (bif (!(decide (a = a))) then (bif (!(decide (b = b))) then (some (I 0, [], true)) else
      some (I (-1), [], true)) else
    bif (!(decide (b = b))) then (some (I 1, [], true)) else
    bif (decide (a < b)) then (some (I (-1), [], true)) else
    bif (decide (b < a)) then (some (I 1, [], true)) else
    some (I 0, [], true)) := by kernel_rfl

theorem scmpBytes (x : Nat → Nat → Int) (y : Nat → Nat → Int) (N : Nat) : fnK Try.prog (kc (tabOf [e_cmpByte])) 40 (rnd [2] 12 N) 153 [.vi .u8 1 9 x, .vi .u8 1 9 y]  done =
    (bif (!(decide ((cmpI (x 0 0) (y 0 0)) = 0))) then (some (I (cmpI (x 0 0) (y 0 0)), [], true)) else
    bif (!(decide ((cmpI (x 1 0) (y 1 0)) = 0))) then (some (I (cmpI (x 1 0) (y 1 0)), [], true)) else
    bif (!(decide ((cmpI (x 2 0) (y 2 0)) = 0))) then (some (I (cmpI (x 2 0) (y 2 0)), [], true)) else
    bif (!(decide ((cmpI (x 3 0) (y 3 0)) = 0))) then (some (I (cmpI (x 3 0) (y 3 0)), [], true)) else
    bif (!(decide ((cmpI (x 4 0) (y 4 0)) = 0))) then (some (I (cmpI (x 4 0) (y 4 0)), [], true)) else
    bif (!(decide ((cmpI (x 5 0) (y 5 0)) = 0))) then (some (I (cmpI (x 5 0) (y 5 0)), [], true)) else
    bif (!(decide ((cmpI (x 6 0) (y 6 0)) = 0))) then (some (I (cmpI (x 6 0) (y 6 0)), [], true)) else
    bif (!(decide ((cmpI (x 7 0) (y 7 0)) = 0))) then (some (I (cmpI (x 7 0) (y 7 0)), [], true)) else
    bif (!(decide ((cmpI (x 8 0) (y 8 0)) = 0))) then (some (I (cmpI (x 8 0) (y 8 0)), [], true)) else
    some (I 0, [], true)) := by kernel_rfl

end Go.Proofs.Ythbmlioknnhleaa.Fn
