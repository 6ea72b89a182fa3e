/- Equations of the abstract machine for some functions and their loops, printed by a program. -/
import Derived.Test.YthbmlioknnhleaaDa
import Derived.Test.YthbmlioknnhleaaDg
import Derived.Test.YthbmlioknnhleaaDk
import Derived.Test.YthbmlioknnhleaaDsort
import Derived.Test.YthbmlioknnhleaaDss
import Derived.Test.YthbmlioknnhleaaDnmb
import Derived.Test.YthbmlioknnhleaaDsc
import Derived.Test.YthbmlioknnhleaaDae
namespace Go.Proofs.Ythbmlioknnhleaa.Fn
open Go Go.Proofs.Ythbmlioknnhleaa.Abs
set_option maxRecDepth 100000
set_option linter.unusedVariables false
def SequalPs_4 (n : Nat) (q : Nat → Nat → Int) (n' : Nat) (q' : Nat → Nat → Int) (x13 : Int) : KS := ⟨[(0, (AV.vi .u8 27 n q)), (1, (AV.vi .u8 27 n' q')), (12, I ((n : Nat) : Int)), (13, I x13)], [], [], 0, true⟩
noncomputable def LequalPs_4 (n : Nat) (q : Nat → Nat → Int) (n' : Nat) (q' : Nat → Nat → Int) (N : Nat) (m : Nat) (x13 : Int) : R := loopAtH Try.prog (kc (tabOf [])) 40 (rnd [] 40 N) 74 [] [true, true, false, true, false] [] m (SequalPs_4 n q n' q' x13) done
theorem sequalPs (n : Nat) (q : Nat → Nat → Int) (n' : Nat) (q' : Nat → Nat → Int) (N : Nat) : fnK Try.prog (kc (tabOf [])) 40 (rnd [] 40 N) 74 [.vi .u8 27 n q, .vi .u8 27 n' q']  done =
    (bif (!(decide (((n : Nat) : Int) = ((n' : Nat) : Int)))) then (some ((AV.bool false), [], true)) else
    LequalPs_4 n q n' q' N N 0) := by kernel_rfl
theorem requalPs_4 (n : Nat) (q : Nat → Nat → Int) (n' : Nat) (q' : Nat → Nat → Int) (N : Nat) (m : Nat) (x13 : Int) : LequalPs_4 n q n' q' N  (m + 1) x13 =
    (bif (decide (x13 < ((n : Nat) : Int))) then (chk (decide ((0 ≤ x13) ∧ (x13 < ((n : Nat) : Int)))) <|
      chk (decide ((0 ≤ x13) ∧ (x13 < ((n' : Nat) : Int)))) <|
      bif (!(decide ((intsFrom (q (Int.toNat x13)) 0 27) = (intsFrom (q' (Int.toNat x13)) 0 27)))) then (some ((AV.bool false), [], true)) else
      LequalPs_4 n q n' q' N m (W (x13 + 1))) else
    some ((AV.bool true), [], true)) := by kernel_rfl

theorem simplAe (p : Int) (r : Int) (k : Int) (c : Int) (n : Nat) (q : Nat → Nat → Int) (p' : Int) (r' : Int) (k' : Int) (c' : Int) (n' : Nat) (q' : Nat → Nat → Int) (N : Nat) : fnK Try.prog (kc (tabOf [e_IsScheme, e_normals, e_sorted, e_equalPs])) 40 (rnd [2, 5] 5 N) 35 [.agg [I p, I r, I k, I c, .vi .u8 27 n q], .agg [I p', I r', I k', I c', .vi .u8 27 n' q']]  done =
    (bif (!(isB p r k c n q)) then (some ((AV.tup [(AV.bool false), I 1]), [], true)) else
    bif (!(isB p' r' k' c' n' q')) then (some ((AV.tup [(AV.bool false), I 1]), [], true)) else
    bif (!(decide (p = p'))) then (some ((AV.tup [(AV.bool false), I 2]), [], true)) else
    bif (!(decide (r = r'))) then (some ((AV.tup [(AV.bool false), I 2]), [], true)) else
    bif (!(decide (k = k'))) then (some ((AV.tup [(AV.bool false), I 2]), [], true)) else
    bif (!(decide (c = c'))) then (some ((AV.tup [(AV.bool false), I 2]), [], true)) else
    chk (okNs p n q) <|
    chk (n == n) <|
    chk (decide ((0 + n) ≤ n)) <|
    chk ((nnB n (canonI n 27 (fun i => (normF p (q i))))) && (decide (n ≤ 30))) <|
    chk (okNs p' n' q') <|
    chk (n' == n') <|
    chk (decide ((0 + n') ≤ n')) <|
    chk ((nnB n' (canonI n' 27 (fun i => (normF p' (q' i))))) && (decide (n' ≤ 30))) <|
    chk (n == n) <|
    chk (decide ((0 + n) ≤ n)) <|
    chk (n' == n') <|
    chk (decide ((0 + n') ≤ n')) <|
    chk (decide (n ≤ 30)) <|
    some ((AV.tup [(AV.bool (eqL n (canonI n 27 (sortQ n (canonI n 27 (fun i => (normF p (q i)))))) n' (canonI n' 27 (sortQ n' (canonI n' 27 (fun i => (normF p' (q' i)))))))), I 0]), [], true)) := by kernel_rfl

def SspecAe_7 (p : Int) (r : Int) (k : Int) (c : Int) (n : Nat) (q : Nat → Nat → Int) (p' : Int) (r' : Int) (k' : Int) (c' : Int) (n' : Nat) (q' : Nat → Nat → Int) (b9 : Bool) (x10 : Int) : KS := ⟨[(7, (AV.lptr 7 0)), (8, (AV.lptr 8 0)), (9, (AV.bool b9)), (10, I x10)], [(7, [I p, I r, I k, I c, (AV.sl 1 0 n n)]), (8, [I p', I r', I k', I c', (AV.sl 3 0 n' n')])], [(KB.mk 63 27 (KR.ints .u8 27 n (fun i => (normF p (q i))))), (KB.mk 63 27 (KR.ints .u8 27 n (sortQ n (canonI n 27 (fun i => (normF p (q i))))))), (KB.mk 63 27 (KR.ints .u8 27 n' (fun i => (normF p' (q' i))))), (KB.mk 63 27 (KR.ints .u8 27 n' (sortQ n' (canonI n' 27 (fun i => (normF p' (q' i)))))))], 0, true⟩
noncomputable def LspecAe_7 (p : Int) (r : Int) (k : Int) (c : Int) (n : Nat) (q : Nat → Nat → Int) (p' : Int) (r' : Int) (k' : Int) (c' : Int) (n' : Nat) (q' : Nat → Nat → Int) (N : Nat) (m : Nat) (b9 : Bool) (x10 : Int) : R := loopAtH Try.prog (kc (tabOf [e_l01Is, e_l03AllNormal, e_l01Sorted])) 40 (rnd [] 40 N) 34 [] [true, true, true, true, false, true, false] [] m (SspecAe_7 p r k c n q p' r' k' c' n' q' b9 x10) done
theorem sspecAe (p : Int) (r : Int) (k : Int) (c : Int) (n : Nat) (q : Nat → Nat → Int) (p' : Int) (r' : Int) (k' : Int) (c' : Int) (n' : Nat) (q' : Nat → Nat → Int) (N : Nat) : fnK Try.prog (kc (tabOf [e_l01Is, e_l03AllNormal, e_l01Sorted])) 40 (rnd [] 40 N) 34 [.agg [I p, I r, I k, I c, .vi .u8 27 n q], .agg [I p', I r', I k', I c', .vi .u8 27 n' q']]  done =
    (bif (!(isB p r k c n q)) then (some ((AV.tup [(AV.bool false), I 1]), [], true)) else
    bif (!(isB p' r' k' c' n' q')) then (some ((AV.tup [(AV.bool false), I 1]), [], true)) else
    bif (!(decide (p = p'))) then (some ((AV.tup [(AV.bool false), I 2]), [], true)) else
    bif (!(decide (r = r'))) then (some ((AV.tup [(AV.bool false), I 2]), [], true)) else
    bif (!(decide (k = k'))) then (some ((AV.tup [(AV.bool false), I 2]), [], true)) else
    bif (!(decide (c = c'))) then (some ((AV.tup [(AV.bool false), I 2]), [], true)) else
    chk (okNs p n q) <|
    chk (n == n) <|
    chk (decide ((0 + n) ≤ n)) <|
    chk (decide (n ≤ 30)) <|
    chk (okNs p' n' q') <|
    chk (n' == n') <|
    chk (decide ((0 + n') ≤ n')) <|
    chk (decide (n' ≤ 30)) <|
    chk (n == n) <|
    chk (n' == n') <|
    LspecAe_7 p r k c n q p' r' k' c' n' q' N N (decide (((n : Nat) : Int) = ((n' : Nat) : Int))) 0) := by kernel_rfl
theorem rspecAe_7 (p : Int) (r : Int) (k : Int) (c : Int) (n : Nat) (q : Nat → Nat → Int) (p' : Int) (r' : Int) (k' : Int) (c' : Int) (n' : Nat) (q' : Nat → Nat → Int) (N : Nat) (m : Nat) (b9 : Bool) (x10 : Int) : LspecAe_7 p r k c n q p' r' k' c' n' q' N  (m + 1) b9 x10 =
    (chk (n == n) <|
    bif (decide (x10 < ((n : Nat) : Int))) then (bif b9 then (chk (n == n) <|
        chk (decide ((0 ≤ x10) ∧ (x10 < ((n : Nat) : Int)))) <|
        chk (decide ((0 + n) ≤ n)) <|
        chk (n == n) <|
        chk (decide ((0 + (Int.toNat x10)) < n)) <|
        chk (n' == n') <|
        chk (decide ((0 ≤ x10) ∧ (x10 < ((n' : Nat) : Int)))) <|
        chk (decide ((0 + n') ≤ n')) <|
        chk (n' == n') <|
        chk (decide ((0 + (Int.toNat x10)) < n')) <|
        LspecAe_7 p r k c n q p' r' k' c' n' q' N m (decide ((intsFrom (sortQ n (canonI n 27 (fun i => (normF p (q i)))) (0 + (Int.toNat x10))) 0 27) = (intsFrom (sortQ n' (canonI n' 27 (fun i => (normF p' (q' i)))) (0 + (Int.toNat x10))) 0 27))) (W (x10 + 1))) else
      some ((AV.tup [(AV.bool b9), I 0]), [], true)) else
    some ((AV.tup [(AV.bool b9), I 0]), [], true)) := by kernel_rfl

end Go.Proofs.Ythbmlioknnhleaa.Fn
