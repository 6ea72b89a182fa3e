/- Equations of the abstract machine for some functions and their loops, printed by a program. -/
import Derived.Test.YthbmlioknnhleaaDa
import Derived.Test.YthbmlioknnhleaaDg
import Derived.Test.YthbmlioknnhleaaDk
import Derived.Test.YthbmlioknnhleaaDsort
import Derived.Test.YthbmlioknnhleaaDss
namespace Go.Proofs.Ythbmlioknnhleaa.Fn
open Go Go.Proofs.Ythbmlioknnhleaa.Abs
set_option maxRecDepth 100000
set_option linter.unusedVariables false
theorem sspecSortScheme (p : Int) (r : Int) (k : Int) (c : Int) (n : Nat) (q : Nat → Nat → Int) (N : Nat) : fnK Try.prog (kc (tabOf [e_l01Is, e_l01Sorted])) 40 (rnd [] 40 N) 32 [.agg [I p, I r, I k, I c, .vi .u8 27 n q]]  done =
    (bif (!(isB p r k c n q)) then (some ((AV.tup [(AV.agg [I 0, I 0, I 0, I 0, AV.nilsl]), I 1]), [], true)) else
    chk (decide (n ≤ 30)) <|
    some ((AV.tup [(AV.agg [I p, I r, I k, I c, (AV.sl 0 0 n n)]), I 0]), [(KB.mk 63 27 (KR.ints .u8 27 n (sortQ n q)))], true)) := by kernel_rfl

theorem simplSortScheme (p : Int) (r : Int) (k : Int) (c : Int) (n : Nat) (q : Nat → Nat → Int) (N : Nat) : fnK Try.prog (kc (tabOf [e_IsScheme, e_sorted])) 40 (rnd [] 40 N) 33 [.agg [I p, I r, I k, I c, .vi .u8 27 n q]]  done =
    (bif (!(isB p r k c n q)) then (some ((AV.tup [(AV.agg [I 0, I 0, I 0, I 0, AV.nilsl]), I 1]), [], true)) else
    chk ((nnB n q) && (decide (n ≤ 30))) <|
    some ((AV.tup [(AV.agg [I p, I r, I k, I c, (AV.sl 0 0 n n)]), I 0]), [(KB.mk 63 27 (KR.ints .u8 27 n (sortQ n q)))], true)) := by kernel_rfl

end Go.Proofs.Ythbmlioknnhleaa.Fn
