/- Equations of the abstract machine for some functions and their loops, printed by a program. -/
import Derived.Test.YtjdciikfbinchaaDa
import Derived.Test.YtjdciikfbinchaaDg
import Derived.Test.YtjdciikfbinchaaDjn
namespace Go.Proofs.Ytjdciikfbinchaa.Fn
open Go Go.Proofs.Ytjdciikfbinchaa.Abs
set_option maxRecDepth 100000
set_option linter.unusedVariables false
theorem simplJN (a : Int) (b : Int) (c : Int) (N : Nat) : fnK Try.prog (kc (tabOf [e_isSize, e_noDiv])) 40 (rnd [] 40 N) 16 [I a, I b, I c]  done =
    (chk (!((sizeB a) && ((sizeB b) && (sizeB c)))) <|
    some ((AV.tup [I 0, I 2]), [], true)) := by kernel_rfl

theorem sspecJN (a : Int) (b : Int) (c : Int) (N : Nat) : fnK Try.prog (kc (tabOf [e_l01Sizes, e_noNum])) 40 (rnd [] 40 N) 15 [I a, I b, I c]  done =
    (chk (!(sizesB 2 a b c)) <|
    some ((AV.tup [I 0, I 2]), [], true)) := by kernel_rfl

end Go.Proofs.Ytjdciikfbinchaa.Fn
