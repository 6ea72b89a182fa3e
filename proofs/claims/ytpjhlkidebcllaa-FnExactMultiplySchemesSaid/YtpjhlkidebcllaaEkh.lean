/- Equations of the abstract machine for some functions and their loops, printed by a program. -/
import Derived.Test.YtpjhlkidebcllaaDa
import Derived.Test.YtpjhlkidebcllaaDk
import Derived.Test.YtpjhlkidebcllaaDkept
namespace Go.Proofs.Ytpjhlkidebcllaa.Fn
open Go Go.Proofs.Ytpjhlkidebcllaa.Abs
set_option maxRecDepth 100000
set_option linter.unusedVariables false
theorem shasZero (q : Nat → Int) (N : Nat) : fnK Try.prog (kc (tabOf [])) 40 (rnd [] 40 N) 107 [.agg (cellsI .u8 27 q)]  done =
    (bif (zero9 q) then (some ((AV.bool true), [], true)) else
    bif (zero9 (pB q)) then (some ((AV.bool true), [], true)) else
    some ((AV.bool (zero9 (pC q))), [], true)) := by kernel_rfl

def Sl03Told_3 (p : Int) (r : Int) (k : Int) (c : Int) (m0 : Nat) (y : Nat → Nat → Int) (n : Nat) (q : Nat → Nat → Int) (x6 : Int) (ny5_4 : Nat) (qh0 : Nat → Nat → Int) : KS := ⟨[(1, (AV.vi .u8 27 n q)), (4, (AV.lptr 4 0)), (5, (AV.lptr 5 0)), (6, I x6)], [(4, [I 0, I 0, I 0, I 0, AV.nilsl]), (5, [I p, I r, I k, I c, (AV.sl 0 0 ny5_4 ny5_4)])], [(KB.mk 64 27 (KR.ints .u8 27 ny5_4 qh0))], 0, true⟩
noncomputable def Ll03Told_3 (p : Int) (r : Int) (k : Int) (c : Int) (m0 : Nat) (y : Nat → Nat → Int) (n : Nat) (q : Nat → Nat → Int) (N : Nat) (m : Nat) (x6 : Int) (ny5_4 : Nat) (qh0 : Nat → Nat → Int) : R := loopAtH Try.prog (kc (tabOf [])) 40 (rnd [] 40 N) 74 [] [true, true, false, true, false] [] m (Sl03Told_3 p r k c m0 y n q x6 ny5_4 qh0) done
theorem sl03Told (p : Int) (r : Int) (k : Int) (c : Int) (m0 : Nat) (y : Nat → Nat → Int) (n : Nat) (q : Nat → Nat → Int) (N : Nat) : fnK Try.prog (kc (tabOf [])) 40 (rnd [] 40 N) 74 [.agg [I p, I r, I k, I c, .vi .u8 27 m0 y], .vi .u8 27 n q]  done =
    (Ll03Told_3 p r k c m0 y n q N N 0 0 (nthR [])) := by kernel_rfl
theorem rl03Told_3 (p : Int) (r : Int) (k : Int) (c : Int) (m0 : Nat) (y : Nat → Nat → Int) (n : Nat) (q : Nat → Nat → Int) (N : Nat) (m : Nat) (x6 : Int) (ny5_4 : Nat) (qh0 : Nat → Nat → Int) : Ll03Told_3 p r k c m0 y n q N  (m + 1) x6 ny5_4 qh0 =
    (bif (decide (x6 < ((n : Nat) : Int))) then (chk (decide ((0 ≤ x6) ∧ (x6 < ((n : Nat) : Int)))) <|
      bif (!(zero9 (q (Int.toNat x6)))) then (bif (!(zero9 (pB (q (Int.toNat x6))))) then (bif (!(zero9 (pC (q (Int.toNat x6))))) then (chk (ny5_4 == ny5_4) <|
            chk (decide ((ny5_4 + 1) ≤ 4294967296)) <|
            chk (decide (ny5_4 = ny5_4)) <|
            Ll03Told_3 p r k c m0 y n q N m (W (x6 + 1)) (ny5_4 + 1) (fun a c1 => (bif (decide (a < ny5_4)) then (qh0 a c1) else (nthI (intsFrom (q (Int.toNat x6)) 0 27) c1)))) else
          Ll03Told_3 p r k c m0 y n q N m (W (x6 + 1)) ny5_4 qh0) else
        Ll03Told_3 p r k c m0 y n q N m (W (x6 + 1)) ny5_4 qh0) else
      Ll03Told_3 p r k c m0 y n q N m (W (x6 + 1)) ny5_4 qh0) else
    some ((AV.agg [I p, I r, I k, I c, (AV.sl 0 0 ny5_4 ny5_4)]), [(KB.mk 64 27 (KR.ints .u8 27 ny5_4 qh0))], true)) := by kernel_rfl

end Go.Proofs.Ytpjhlkidebcllaa.Fn
