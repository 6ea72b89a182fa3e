/- Equations of the abstract machine for some functions and their loops, printed by a program. -/
import Derived.Test.YthbmlioknnhleaaDa
import Derived.Test.YthbmlioknnhleaaDk
import Derived.Test.YthbmlioknnhleaaDsort
namespace Go.Proofs.Ythbmlioknnhleaa.Fn
open Go Go.Proofs.Ythbmlioknnhleaa.Abs
set_option maxRecDepth 100000
set_option linter.unusedVariables false
def Sl01Sorted_3 (p : Int) (r : Int) (k : Int) (c : Int) (n : Nat) (q : Nat → Nat → Int) (x4 : Int) (ny3_4 : Nat) (qh0 : Nat → Nat → Int) : KS := ⟨[(1, (AV.lptr 1 0)), (2, (AV.lptr 2 0)), (3, (AV.lptr 3 0)), (4, I x4)], [(1, [I p, I r, I k, I c, (AV.vi .u8 27 n q)]), (2, [I 0, I 0, I 0, I 0, AV.nilsl]), (3, [I p, I r, I k, I c, (AV.sl 0 0 ny3_4 ny3_4)])], [(KB.mk 63 27 (KR.ints .u8 27 ny3_4 qh0))], 0, true⟩
noncomputable def Ll01Sorted_3 (p : Int) (r : Int) (k : Int) (c : Int) (n : Nat) (q : Nat → Nat → Int) (N : Nat) (m : Nat) (x4 : Int) (ny3_4 : Nat) (qh0 : Nat → Nat → Int) : R := loopAtH Try.prog (kc (tabOf [e_l01Less])) 40 (rnd [] 40 N) 69 [] [true, true, false, true, false] [] m (Sl01Sorted_3 p r k c n q x4 ny3_4 qh0) done
def Sl01Sorted_6 (p : Int) (r : Int) (k : Int) (c : Int) (n : Nat) (q : Nat → Nat → Int) (x4 : Int) (x5 : Int) (ny3_4 : Nat) (qh0 : Nat → Nat → Int) : KS := ⟨[(1, (AV.lptr 1 0)), (2, (AV.lptr 2 0)), (3, (AV.lptr 3 0)), (4, I x4), (5, I x5)], [(1, [I p, I r, I k, I c, (AV.vi .u8 27 n q)]), (2, [I 0, I 0, I 0, I 0, AV.nilsl]), (3, [I p, I r, I k, I c, (AV.sl 0 0 ny3_4 ny3_4)])], [(KB.mk 63 27 (KR.ints .u8 27 ny3_4 qh0))], 0, true⟩
noncomputable def Ll01Sorted_6 (p : Int) (r : Int) (k : Int) (c : Int) (n : Nat) (q : Nat → Nat → Int) (N : Nat) (m1 : Nat) (m : Nat) (x4 : Int) (x5 : Int) (ny3_4 : Nat) (qh0 : Nat → Nat → Int) : R := loopAtH Try.prog (kc (tabOf [e_l01Less])) 40 (rnd [] 40 N) 69 [] [true, true, false, true, false, false, true, false, false, true, false, false] [m1] m (Sl01Sorted_6 p r k c n q x4 x5 ny3_4 qh0) done
theorem sl01Sorted (p : Int) (r : Int) (k : Int) (c : Int) (n : Nat) (q : Nat → Nat → Int) (N : Nat) : fnK Try.prog (kc (tabOf [e_l01Less])) 40 (rnd [] 40 N) 69 [.agg [I p, I r, I k, I c, .vi .u8 27 n q]]  done =
    (Ll01Sorted_3 p r k c n q N N 0 0 (nthR [])) := by kernel_rfl
theorem rl01Sorted_3 (p : Int) (r : Int) (k : Int) (c : Int) (n : Nat) (q : Nat → Nat → Int) (N : Nat) (m : Nat) (x4 : Int) (ny3_4 : Nat) (qh0 : Nat → Nat → Int) : Ll01Sorted_3 p r k c n q N  (m + 1) x4 ny3_4 qh0 =
    (bif (decide (x4 < ((n : Nat) : Int))) then (Ll01Sorted_6 p r k c n q N m N x4 0 ny3_4 qh0) else
    some ((AV.agg [I p, I r, I k, I c, (AV.sl 0 0 ny3_4 ny3_4)]), [(KB.mk 63 27 (KR.ints .u8 27 ny3_4 qh0))], true)) := by kernel_rfl
theorem rl01Sorted_6 (p : Int) (r : Int) (k : Int) (c : Int) (n : Nat) (q : Nat → Nat → Int) (N : Nat) (m1 : Nat) (m : Nat) (x4 : Int) (x5 : Int) (ny3_4 : Nat) (qh0 : Nat → Nat → Int) : Ll01Sorted_6 p r k c n q N m1 (m + 1) x4 x5 ny3_4 qh0 =
    (chk (ny3_4 == ny3_4) <|
    bif (decide (x5 < ((ny3_4 : Nat) : Int))) then (chk (decide ((0 ≤ x4) ∧ (x4 < ((n : Nat) : Int)))) <|
      chk (ny3_4 == ny3_4) <|
      chk (decide ((0 ≤ x5) ∧ (x5 < ((ny3_4 : Nat) : Int)))) <|
      chk (decide ((0 + ny3_4) ≤ ny3_4)) <|
      chk (ny3_4 == ny3_4) <|
      chk (decide ((0 + (Int.toNat x5)) < ny3_4)) <|
      bif (!(lessP (nthI (intsFrom (q (Int.toNat x4)) 0 27)) (nthI (intsFrom (qh0 (0 + (Int.toNat x5))) 0 27)))) then (Ll01Sorted_6 p r k c n q N m1 m x4 (W (x5 + 1)) ny3_4 qh0) else
      chk (decide ((0 ≤ x4) ∧ (x4 < ((n : Nat) : Int)))) <|
      chk (ny3_4 == ny3_4) <|
      chk (decide ((0 + ny3_4) ≤ ny3_4)) <|
      chk (decide ((0 ≤ x5) ∧ ((x5 ≤ ((ny3_4 : Nat) : Int)) ∧ (((ny3_4 : Nat) : Int) ≤ ((ny3_4 : Nat) : Int))))) <|
      chk (ny3_4 == ny3_4) <|
      chk (decide (((0 + (Int.toNat x5)) + (ny3_4 - (Int.toNat x5))) ≤ ny3_4)) <|
      chk (decide ((1 + (ny3_4 - (Int.toNat x5))) ≤ 4294967296)) <|
      chk (ny3_4 == ny3_4) <|
      chk (decide ((0 + ny3_4) ≤ ny3_4)) <|
      chk (decide (((0 : Int) ≤ 0) ∧ ((0 ≤ x5) ∧ (x5 ≤ ((ny3_4 : Nat) : Int))))) <|
      chk (ny3_4 == ny3_4) <|
      chk (decide ((0 + ((Int.toNat x5) - 0)) ≤ ny3_4)) <|
      chk (decide ((0 + ((Int.toNat x5) - 0)) ≤ 4294967296)) <|
      chk ((1 + (ny3_4 - (Int.toNat x5))) == (1 + (ny3_4 - (Int.toNat x5)))) <|
      chk (decide ((0 + (1 + (ny3_4 - (Int.toNat x5)))) ≤ (1 + (ny3_4 - (Int.toNat x5))))) <|
      chk ((0 + ((Int.toNat x5) - 0)) == (0 + ((Int.toNat x5) - 0))) <|
      chk (decide (((0 + ((Int.toNat x5) - 0)) + (1 + (ny3_4 - (Int.toNat x5)))) ≤ 4294967296)) <|
      chk (decide ((0 + ((Int.toNat x5) - 0)) = (0 + ((Int.toNat x5) - 0)))) <|
      Ll01Sorted_3 p r k c n q N m1 (W (x4 + 1)) ((0 + ((Int.toNat x5) - 0)) + (1 + (ny3_4 - (Int.toNat x5)))) (fun a c1 => (bif (decide (a < (0 + ((Int.toNat x5) - 0)))) then (qh0 (a - 0) c1) else (bif (decide ((a - (0 + ((Int.toNat x5) - 0))) < 1)) then (nthI (intsFrom (q (Int.toNat x4)) 0 27) c1) else (shiftF (α := Nat → Int) (0 + (Int.toNat x5)) qh0 ((a - (0 + ((Int.toNat x5) - 0))) - 1) c1))))) else
    chk (decide ((0 ≤ x4) ∧ (x4 < ((n : Nat) : Int)))) <|
    chk (ny3_4 == ny3_4) <|
    chk (decide ((0 + ny3_4) ≤ ny3_4)) <|
    chk (decide ((0 ≤ x5) ∧ ((x5 ≤ ((ny3_4 : Nat) : Int)) ∧ (((ny3_4 : Nat) : Int) ≤ ((ny3_4 : Nat) : Int))))) <|
    chk (ny3_4 == ny3_4) <|
    chk (decide (((0 + (Int.toNat x5)) + (ny3_4 - (Int.toNat x5))) ≤ ny3_4)) <|
    chk (decide ((1 + (ny3_4 - (Int.toNat x5))) ≤ 4294967296)) <|
    chk (ny3_4 == ny3_4) <|
    chk (decide ((0 + ny3_4) ≤ ny3_4)) <|
    chk (decide (((0 : Int) ≤ 0) ∧ ((0 ≤ x5) ∧ (x5 ≤ ((ny3_4 : Nat) : Int))))) <|
    chk (ny3_4 == ny3_4) <|
    chk (decide ((0 + ((Int.toNat x5) - 0)) ≤ ny3_4)) <|
    chk (decide ((0 + ((Int.toNat x5) - 0)) ≤ 4294967296)) <|
    chk ((1 + (ny3_4 - (Int.toNat x5))) == (1 + (ny3_4 - (Int.toNat x5)))) <|
    chk (decide ((0 + (1 + (ny3_4 - (Int.toNat x5)))) ≤ (1 + (ny3_4 - (Int.toNat x5))))) <|
    chk ((0 + ((Int.toNat x5) - 0)) == (0 + ((Int.toNat x5) - 0))) <|
    chk (decide (((0 + ((Int.toNat x5) - 0)) + (1 + (ny3_4 - (Int.toNat x5)))) ≤ 4294967296)) <|
    chk (decide ((0 + ((Int.toNat x5) - 0)) = (0 + ((Int.toNat x5) - 0)))) <|
    Ll01Sorted_3 p r k c n q N m1 (W (x4 + 1)) ((0 + ((Int.toNat x5) - 0)) + (1 + (ny3_4 - (Int.toNat x5)))) (fun a c1 => (bif (decide (a < (0 + ((Int.toNat x5) - 0)))) then (qh0 (a - 0) c1) else (bif (decide ((a - (0 + ((Int.toNat x5) - 0))) < 1)) then (nthI (intsFrom (q (Int.toNat x4)) 0 27) c1) else (shiftF (α := Nat → Int) (0 + (Int.toNat x5)) qh0 ((a - (0 + ((Int.toNat x5) - 0))) - 1) c1))))) := by kernel_rfl

end Go.Proofs.Ythbmlioknnhleaa.Fn
