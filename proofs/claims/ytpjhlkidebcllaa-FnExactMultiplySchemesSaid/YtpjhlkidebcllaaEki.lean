/- Equations of the abstract machine for some functions and their loops, printed by a program. -/
import Derived.Test.YtpjhlkidebcllaaDa
import Derived.Test.YtpjhlkidebcllaaDk
import Derived.Test.YtpjhlkidebcllaaDkept
namespace Go.Proofs.Ytpjhlkidebcllaa.Fn
open Go Go.Proofs.Ytpjhlkidebcllaa.Abs
set_option maxRecDepth 100000
set_option linter.unusedVariables false
def SindexFunc_2 (n : Nat) (q : Nat → Nat → Int) (x8 : Int) : KS := ⟨[(0, (AV.vi .u8 27 n q)), (1, (AV.fn 107 [])), (7, I ((n : Nat) : Int)), (8, I x8)], [], [], 0, true⟩
noncomputable def LindexFunc_2 (n : Nat) (q : Nat → Nat → Int) (N : Nat) (m : Nat) (x8 : Int) : R := loopAtH Try.prog (kc (tabOf [e_hasZero])) 40 (rnd [] 40 N) 121 [] [true, false, true, false] [] m (SindexFunc_2 n q x8) done
theorem sindexFunc (n : Nat) (q : Nat → Nat → Int) (N : Nat) : fnK Try.prog (kc (tabOf [e_hasZero])) 40 (rnd [] 40 N) 121 [.vi .u8 27 n q, .fn fnHasZero []]  done =
    (LindexFunc_2 n q N N 0) := by kernel_rfl
theorem rindexFunc_2 (n : Nat) (q : Nat → Nat → Int) (N : Nat) (m : Nat) (x8 : Int) : LindexFunc_2 n q N  (m + 1) x8 =
    (bif (decide (x8 < ((n : Nat) : Int))) then (chk (decide ((0 ≤ x8) ∧ (x8 < ((n : Nat) : Int)))) <|
      bif (!(nzF (nthI (intsFrom (q (Int.toNat x8)) 0 27)))) then (some (I x8, [], true)) else
      LindexFunc_2 n q N m (W (x8 + 1))) else
    some (I (-1), [], true)) := by kernel_rfl

end Go.Proofs.Ytpjhlkidebcllaa.Fn
