/- Equations of the abstract machine for some functions and their loops, printed by a program. -/
import Derived.Test.YtjdciikfbinchaaDa
import Derived.Test.YtjdciikfbinchaaDg
import Derived.Test.YtjdciikfbinchaaDjn
namespace Go.Proofs.Ytjdciikfbinchaa.Fn
open Go Go.Proofs.Ytjdciikfbinchaa.Abs
set_option maxRecDepth 100000
set_option linter.unusedVariables false
theorem slawJN (a : Int) (b : Int) (c : Int) (N : Nat) : fnK Try.prog (kc (tabOf [e_specJoinNumber, e_implJoinNumber])) 40 (rnd [] 40 N) 3 [I a, I b, I c]  done =
    (bif (!(decide ((jnV a b c) = (jnV a b c)))) then (some ((AV.bool false), [], true)) else
    bif (!(decide ((jnC a b c) = (jnC a b c)))) then (some ((AV.bool false), [], true)) else
    some ((AV.bool true), [], true)) := by kernel_rfl

end Go.Proofs.Ytjdciikfbinchaa.Fn
