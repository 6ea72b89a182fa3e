/- Equations of the abstract machine for some functions and their loops, printed by a program. -/
import Derived.Test.YthbmlioknnhleaaDa
import Derived.Test.YthbmlioknnhleaaDk
import Derived.Test.YthbmlioknnhleaaDsort
import Derived.Test.YthbmlioknnhleaaDsf
namespace Go.Proofs.Ythbmlioknnhleaa.Fn
open Go Go.Proofs.Ythbmlioknnhleaa.Abs
set_option maxRecDepth 100000
set_option linter.unusedVariables false
theorem ssorted (p : Int) (r : Int) (k : Int) (c : Int) (n : Nat) (q : Nat → Nat → Int) (N : Nat) : fnK Try.prog (kc (tabOf []) (mtabOf [m_sort])) 40 (rnd [] 40 N) 70 [.agg [I p, I r, I k, I c, .vi .u8 27 n q]]  done =
    (chkn (decide ((n = 0) ∧ (Not ((q 0 0) = 0)))) <|
    chk (decide ((0 + n) ≤ 4294967296)) <|
    chk ((((((decide ((0 + n) = (0 + n))) && (decide ((0 + n) = (0 + n)))) && (decide ((0 + n) < 4611686018427387904))) && true) && true) && true) <|
    some ((AV.agg [I p, I r, I k, I c, (AV.sl 0 0 (0 + n) (0 + n))]), [(KB.mk 63 27 (KR.ints .u8 27 (0 + n) (sortQ (0 + n) (canonI (0 + n) 27 (fun a => (q (a - 0)))))))], true)) := by kernel_rfl

end Go.Proofs.Ythbmlioknnhleaa.Fn
