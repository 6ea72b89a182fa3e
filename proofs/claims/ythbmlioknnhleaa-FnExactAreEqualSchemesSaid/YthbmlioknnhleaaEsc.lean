/- Equations of the abstract machine for some functions and their loops, printed by a program. -/
import Derived.Test.YthbmlioknnhleaaDa
import Derived.Test.YthbmlioknnhleaaDg
import Derived.Test.YthbmlioknnhleaaDk
import Derived.Test.YthbmlioknnhleaaDsort
import Derived.Test.YthbmlioknnhleaaDss
import Derived.Test.YthbmlioknnhleaaDnmb
import Derived.Test.YthbmlioknnhleaaDsc
namespace Go.Proofs.Ythbmlioknnhleaa.Fn
open Go Go.Proofs.Ythbmlioknnhleaa.Abs
set_option maxRecDepth 100000
set_option linter.unusedVariables false
theorem simplScaled (p : Int) (r : Int) (k : Int) (c : Int) (n : Nat) (q : Nat → Nat → Int) (N : Nat) : fnK Try.prog (kc (tabOf [e_IsScheme, e_normals, e_sorted])) 40 (rnd [] 40 N) 37 [.agg [I p, I r, I k, I c, .vi .u8 27 n q]]  done =
    (bif (!(isB p r k c n q)) then (some ((AV.tup [(AV.agg [I 0, I 0, I 0, I 0, AV.nilsl]), I 1]), [], true)) else
    chk (okNs p n q) <|
    chk (n == n) <|
    chk (decide ((0 + n) ≤ n)) <|
    chk ((nnB n (canonI n 27 (fun i => (normF p (q i))))) && (decide (n ≤ 30))) <|
    some ((AV.tup [(AV.agg [I p, I r, I k, I c, (AV.sl 0 0 n n)]), I 0]), [(KB.mk 63 27 (KR.ints .u8 27 n (sortQ n (canonI n 27 (fun i => (normF p (q i)))))))], true)) := by kernel_rfl

def SspecScaled_5 (p : Int) (r : Int) (k : Int) (c : Int) (n : Nat) (q : Nat → Nat → Int) (x6 : Int) (ny4_4 : Nat) (qh0 : Nat → Nat → Int) : KS := ⟨[(1, (AV.lptr 1 0)), (2, (AV.lptr 2 0)), (4, (AV.lptr 4 0)), (5, I p), (6, I x6)], [(1, [I p, I r, I k, I c, (AV.vi .u8 27 n q)]), (2, [I 0, I 0, I 0, I 0, AV.nilsl]), (4, [I p, I r, I k, I c, (AV.sl 0 0 ny4_4 ny4_4)])], [(KB.mk 63 27 (KR.ints .u8 27 ny4_4 qh0))], 0, true⟩
noncomputable def LspecScaled_5 (p : Int) (r : Int) (k : Int) (c : Int) (n : Nat) (q : Nat → Nat → Int) (N : Nat) (m : Nat) (x6 : Int) (ny4_4 : Nat) (qh0 : Nat → Nat → Int) : R := loopAtH Try.prog (kc (tabOf [e_l01Is, e_l04First, e_l01Inverse, e_l01Scale, e_l01Sorted])) 40 (rnd [] 40 N) 36 [] [true, true, true, false, true, false] [] m (SspecScaled_5 p r k c n q x6 ny4_4 qh0) done
theorem sspecScaled (p : Int) (r : Int) (k : Int) (c : Int) (n : Nat) (q : Nat → Nat → Int) (N : Nat) : fnK Try.prog (kc (tabOf [e_l01Is, e_l04First, e_l01Inverse, e_l01Scale, e_l01Sorted])) 40 (rnd [] 40 N) 36 [.agg [I p, I r, I k, I c, .vi .u8 27 n q]]  done =
    (bif (!(isB p r k c n q)) then (some ((AV.tup [(AV.agg [I 0, I 0, I 0, I 0, AV.nilsl]), I 1]), [], true)) else
    LspecScaled_5 p r k c n q N N 0 0 (nthR [])) := by kernel_rfl
theorem rspecScaled_5 (p : Int) (r : Int) (k : Int) (c : Int) (n : Nat) (q : Nat → Nat → Int) (N : Nat) (m : Nat) (x6 : Int) (ny4_4 : Nat) (qh0 : Nat → Nat → Int) : LspecScaled_5 p r k c n q N  (m + 1) x6 ny4_4 qh0 =
    (bif (decide (x6 < ((n : Nat) : Int))) then (chk (decide ((0 ≤ x6) ∧ (x6 < ((n : Nat) : Int)))) <|
      chk ((primeB p) && (decide ((1 ≤ (leadQ (pA (q (Int.toNat x6))))) ∧ ((leadQ (pA (q (Int.toNat x6)))) < p)))) <|
      chk ((primeB p) && ((decide (((-100) ≤ (invI p (leadQ (pA (q (Int.toNat x6)))))) ∧ ((invI p (leadQ (pA (q (Int.toNat x6))))) ≤ 100))) && (mod9 p (pA (q (Int.toNat x6)))))) <|
      chk ((primeB p) && (decide ((1 ≤ (leadQ (pB (q (Int.toNat x6))))) ∧ ((leadQ (pB (q (Int.toNat x6)))) < p)))) <|
      chk ((primeB p) && ((decide (((-100) ≤ (invI p (leadQ (pB (q (Int.toNat x6)))))) ∧ ((invI p (leadQ (pB (q (Int.toNat x6))))) ≤ 100))) && (mod9 p (pB (q (Int.toNat x6)))))) <|
      chkn (decide (p = 0)) <|
      chk ((primeB p) && ((decide (((-100) ≤ (Int.tmod (W ((leadQ (pA (q (Int.toNat x6)))) * (leadQ (pB (q (Int.toNat x6)))))) p)) ∧ ((Int.tmod (W ((leadQ (pA (q (Int.toNat x6)))) * (leadQ (pB (q (Int.toNat x6)))))) p) ≤ 100))) && (mod9 p (pC (q (Int.toNat x6)))))) <|
      chk (ny4_4 == ny4_4) <|
      chk (decide ((ny4_4 + 1) ≤ 4294967296)) <|
      chk (decide (ny4_4 = ny4_4)) <|
      LspecScaled_5 p r k c n q N m (W (x6 + 1)) (ny4_4 + 1) (fun a c1 => (bif (decide (a < ny4_4)) then (qh0 a c1) else (prodQ (mulQ p (invI p (leadQ (pA (q (Int.toNat x6))))) (pA (q (Int.toNat x6)))) (mulQ p (invI p (leadQ (pB (q (Int.toNat x6))))) (pB (q (Int.toNat x6)))) (mulQ p (Int.tmod (W ((leadQ (pA (q (Int.toNat x6)))) * (leadQ (pB (q (Int.toNat x6)))))) p) (pC (q (Int.toNat x6)))) c1)))) else
    chk (ny4_4 == ny4_4) <|
    chk (decide ((0 + ny4_4) ≤ ny4_4)) <|
    chk (decide (ny4_4 ≤ 30)) <|
    some ((AV.tup [(AV.agg [I p, I r, I k, I c, (AV.sl 0 0 ny4_4 ny4_4)]), I 0]), [(KB.mk 63 27 (KR.ints .u8 27 ny4_4 (sortQ ny4_4 (canonI ny4_4 27 qh0))))], true)) := by kernel_rfl

end Go.Proofs.Ythbmlioknnhleaa.Fn
