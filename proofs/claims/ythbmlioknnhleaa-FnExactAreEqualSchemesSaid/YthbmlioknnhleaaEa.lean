/- Equations of the abstract machine for some functions and their loops, printed by a program. -/
import Derived.Test.YthbmlioknnhleaaDa
namespace Go.Proofs.Ythbmlioknnhleaa.Fn
open Go Go.Proofs.Ythbmlioknnhleaa.Abs
set_option maxRecDepth 100000
set_option linter.unusedVariables false
def Sl01Form_2 (p : Int) (n : Int) (q : Nat → Int) (x7 : Int) : KS := ⟨[(0, I p), (2, I n), (4, (AV.lptr 4 0)), (7, I x7)], [(4, [B (q 0), B (q 1), B (q 2), B (q 3), B (q 4), B (q 5), B (q 6), B (q 7), B (q 8)])], [], 0, true⟩
noncomputable def Ll01Form_2 (p : Int) (n : Int) (q : Nat → Int) (N : Nat) (m : Nat) (x7 : Int) : R := loopAtH Try.prog (kc (tabOf [])) 40 (rnd [] 40 N) 137 [] [true, false, true, false] [] m (Sl01Form_2 p n q x7) done
theorem sl01Form (p : Int) (n : Int) (q : Nat → Int) (N : Nat) : fnK Try.prog (kc (tabOf [])) 40 (rnd [] 40 N) 137 [I p, .agg (cellsI .u8 9 q), I n]  done =
    (Ll01Form_2 p n q N N 0) := by kernel_rfl
theorem rl01Form_2 (p : Int) (n : Int) (q : Nat → Int) (N : Nat) (m : Nat) (x7 : Int) : Ll01Form_2 p n q N  (m + 1) x7 =
    (bif (decide (x7 < 9)) then (chk (decide ((0 ≤ x7) ∧ (x7 < 9))) <|
      chk (decide ((0 + ((Int.toNat x7) * 1)) < 9)) <|
      bif (decide (p ≤ (W (pA q (0 + ((Int.toNat x7) * 1)))))) then (some ((AV.bool false), [], true)) else
      bif (decide (n ≤ x7)) then (chk (decide ((0 ≤ x7) ∧ (x7 < 9))) <|
        chk (decide ((0 + ((Int.toNat x7) * 1)) < 9)) <|
        bif (!(decide ((pA q (0 + ((Int.toNat x7) * 1))) = 0))) then (some ((AV.bool false), [], true)) else
        Ll01Form_2 p n q N m (W (x7 + 1))) else
      Ll01Form_2 p n q N m (W (x7 + 1))) else
    some ((AV.bool true), [], true)) := by kernel_rfl

def SisForm_2 (p : Int) (n : Int) (q : Nat → Int) (x10 : Int) : KS := ⟨[(0, I p), (1, I n), (9, (AV.agg [B (q 0), B (q 1), B (q 2), B (q 3), B (q 4), B (q 5), B (q 6), B (q 7), B (q 8)])), (10, I x10)], [], [], 0, true⟩
noncomputable def LisForm_2 (p : Int) (n : Int) (q : Nat → Int) (N : Nat) (m : Nat) (x10 : Int) : R := loopAtH Try.prog (kc (tabOf [])) 40 (rnd [] 40 N) 141 [] [true, false, true, false] [] m (SisForm_2 p n q x10) done
theorem sisForm (p : Int) (n : Int) (q : Nat → Int) (N : Nat) : fnK Try.prog (kc (tabOf [])) 40 (rnd [] 40 N) 141 [I p, I n, .agg (cellsI .u8 9 q)]  done =
    (LisForm_2 p n q N N 0) := by kernel_rfl
theorem risForm_2 (p : Int) (n : Int) (q : Nat → Int) (N : Nat) (m : Nat) (x10 : Int) : LisForm_2 p n q N  (m + 1) x10 =
    (bif (decide (x10 < 9)) then (chk (decide ((0 ≤ x10) ∧ (x10 < 9))) <|
      chk (decide (((Int.toNat x10) * 1) < 9)) <|
      bif (decide (p ≤ (W (pA q ((Int.toNat x10) * 1))))) then (some ((AV.bool false), [], true)) else
      bif (!(decide ((pA q ((Int.toNat x10) * 1)) = 0))) then (bif (decide (n ≤ x10)) then (some ((AV.bool false), [], true)) else
        LisForm_2 p n q N m (W (x10 + 1))) else
      LisForm_2 p n q N m (W (x10 + 1))) else
    some ((AV.bool true), [], true)) := by kernel_rfl

theorem sl01Product (p : Int) (r : Int) (k : Int) (c : Int) (n : Nat) (y : Nat → Nat → Int) (q : Nat → Int) (N : Nat) : fnK Try.prog (kc (tabOf [e_l01Form])) 40 (rnd [] 40 N) 103 [.agg [I p, I r, I k, I c, .vi .u8 27 n y], .agg (cellsI .u8 27 q)]  done =
    (bif (!(formB p (W (r * k)) (pA q))) then (some ((AV.bool false), [], true)) else
    bif (!(formB p (W (k * c)) (pB q))) then (some ((AV.bool false), [], true)) else
    bif (!(formB p (W (r * c)) (pC q))) then (some ((AV.bool false), [], true)) else
    bif (!(zero9 q)) then (bif (!(zero9 (pB q))) then (some ((AV.bool (!(zero9 (pC q)))), [], true)) else
      some ((AV.bool false), [], true)) else
    some ((AV.bool false), [], true)) := by kernel_rfl

theorem sisProduct (p : Int) (a : Int) (b : Int) (c : Int) (q : Nat → Int) (N : Nat) : fnK Try.prog (kc (tabOf [e_isForm])) 40 (rnd [2] 4 N) 105 [I p, .agg [I a, I b, I c], .agg (cellsI .u8 27 q)]  done =
    (bif (!(formB p a (pA q))) then (some ((AV.bool false), [], true)) else
    bif (!(formB p b (pB q))) then (some ((AV.bool false), [], true)) else
    bif (!(formB p c (pC q))) then (some ((AV.bool false), [], true)) else
    bif (zero9 q) then (some ((AV.bool false), [], true)) else
    bif (zero9 (pB q)) then (some ((AV.bool false), [], true)) else
    some ((AV.bool (!(zero9 (pC q)))), [], true)) := by kernel_rfl

theorem sl01Sizes (p : Int) (n : Int) (k : Int) (c : Int) (N : Nat) : fnK Try.prog (kc (tabOf [])) 40 (rnd [] 40 N) 102 [I p, I n, I k, I c]  done =
    (bif (decide (p = 2)) then (bif (decide (1 ≤ n)) then (bif (decide (n ≤ 3)) then (bif (decide (1 ≤ k)) then (bif (decide (k ≤ 3)) then (bif (decide (1 ≤ c)) then (some ((AV.bool (decide (c ≤ 3))), [], true)) else
              some ((AV.bool false), [], true)) else
            some ((AV.bool false), [], true)) else
          some ((AV.bool false), [], true)) else
        some ((AV.bool false), [], true)) else
      some ((AV.bool false), [], true)) else
    bif (decide (p = 3)) then (bif (decide (1 ≤ n)) then (bif (decide (n ≤ 3)) then (bif (decide (1 ≤ k)) then (bif (decide (k ≤ 3)) then (bif (decide (1 ≤ c)) then (some ((AV.bool (decide (c ≤ 3))), [], true)) else
              some ((AV.bool false), [], true)) else
            some ((AV.bool false), [], true)) else
          some ((AV.bool false), [], true)) else
        some ((AV.bool false), [], true)) else
      some ((AV.bool false), [], true)) else
    bif (decide (p = 5)) then (bif (decide (1 ≤ n)) then (bif (decide (n ≤ 3)) then (bif (decide (1 ≤ k)) then (bif (decide (k ≤ 3)) then (bif (decide (1 ≤ c)) then (some ((AV.bool (decide (c ≤ 3))), [], true)) else
              some ((AV.bool false), [], true)) else
            some ((AV.bool false), [], true)) else
          some ((AV.bool false), [], true)) else
        some ((AV.bool false), [], true)) else
      some ((AV.bool false), [], true)) else
    some ((AV.bool false), [], true)) := by kernel_rfl

theorem sisPrime (p : Int) (N : Nat) : fnK Try.prog (kc (tabOf [])) 40 (rnd [] 40 N) 93 [I p]  done =
    (bif (decide (p = 2)) then (some ((AV.bool true), [], true)) else
    bif (decide (p = 3)) then (some ((AV.bool true), [], true)) else
    some ((AV.bool (decide (p = 5))), [], true)) := by kernel_rfl

theorem sisSize (n : Int) (k : Int) (c : Int) (N : Nat) : fnK Try.prog (kc (tabOf [])) 40 (rnd [2] 5 N) 94 [.vs 1 [[I n], [I k], [I c]]]  done =
    (bif (decide (n < 1)) then (some ((AV.bool false), [], true)) else
    bif (decide (3 < n)) then (some ((AV.bool false), [], true)) else
    bif (decide (k < 1)) then (some ((AV.bool false), [], true)) else
    bif (decide (3 < k)) then (some ((AV.bool false), [], true)) else
    bif (decide (c < 1)) then (some ((AV.bool false), [], true)) else
    bif (decide (3 < c)) then (some ((AV.bool false), [], true)) else
    some ((AV.bool true), [], true)) := by kernel_rfl

def Sl01Is_4 (p : Int) (r : Int) (k : Int) (c : Int) (n : Nat) (q : Nat → Nat → Int) (x3 : Int) : KS := ⟨[(1, (AV.lptr 1 0)), (3, I x3)], [(1, [I p, I r, I k, I c, (AV.vi .u8 27 n q)])], [], 0, true⟩
noncomputable def Ll01Is_4 (p : Int) (r : Int) (k : Int) (c : Int) (n : Nat) (q : Nat → Nat → Int) (N : Nat) (m : Nat) (x3 : Int) : R := loopAtH Try.prog (kc (tabOf [e_l01Sizes, e_l01Product])) 40 (rnd [] 40 N) 57 [] [true, true, false, true, false] [] m (Sl01Is_4 p r k c n q x3) done
theorem sl01Is (p : Int) (r : Int) (k : Int) (c : Int) (n : Nat) (q : Nat → Nat → Int) (N : Nat) : fnK Try.prog (kc (tabOf [e_l01Sizes, e_l01Product])) 40 (rnd [] 40 N) 57 [.agg [I p, I r, I k, I c, .vi .u8 27 n q]]  done =
    (bif (!(sizesB p r k c)) then (some ((AV.bool false), [], true)) else
    bif (decide (30 < ((n : Nat) : Int))) then (some ((AV.bool false), [], true)) else
    Ll01Is_4 p r k c n q N N 0) := by kernel_rfl
theorem rl01Is_4 (p : Int) (r : Int) (k : Int) (c : Int) (n : Nat) (q : Nat → Nat → Int) (N : Nat) (m : Nat) (x3 : Int) : Ll01Is_4 p r k c n q N  (m + 1) x3 =
    (bif (decide (x3 < ((n : Nat) : Int))) then (chk (decide ((0 ≤ x3) ∧ (x3 < ((n : Nat) : Int)))) <|
      bif (!(prodB p (W (r * k)) (W (k * c)) (W (r * c)) (nthI (intsFrom (q (Int.toNat x3)) 0 27)))) then (some ((AV.bool false), [], true)) else
      Ll01Is_4 p r k c n q N m (W (x3 + 1))) else
    some ((AV.bool true), [], true)) := by kernel_rfl

def SIsScheme_4 (p : Int) (r : Int) (k : Int) (c : Int) (n : Nat) (q : Nat → Nat → Int) (x29 : Int) : KS := ⟨[(1, (AV.lptr 1 0)), (27, (AV.vi .u8 27 n q)), (28, I ((n : Nat) : Int)), (29, I x29)], [(1, [I p, I r, I k, I c, (AV.vi .u8 27 n q)])], [], 0, true⟩
noncomputable def LIsScheme_4 (p : Int) (r : Int) (k : Int) (c : Int) (n : Nat) (q : Nat → Nat → Int) (N : Nat) (m : Nat) (x29 : Int) : R := loopAtH Try.prog (kc (tabOf [e_isPrime, e_isSize, e_isProduct])) 40 (rnd [] 40 N) 60 [] [true, true, false, true, false] [] m (SIsScheme_4 p r k c n q x29) done
theorem sIsScheme (p : Int) (r : Int) (k : Int) (c : Int) (n : Nat) (q : Nat → Nat → Int) (N : Nat) : fnK Try.prog (kc (tabOf [e_isPrime, e_isSize, e_isProduct])) 40 (rnd [] 40 N) 60 [.agg [I p, I r, I k, I c, .vi .u8 27 n q]]  done =
    (bif (!(primeB p)) then (some ((AV.bool false), [], true)) else
    bif (!((sizeB r) && ((sizeB k) && (sizeB c)))) then (some ((AV.bool false), [], true)) else
    bif (decide (30 < ((n : Nat) : Int))) then (some ((AV.bool false), [], true)) else
    LIsScheme_4 p r k c n q N N 0) := by kernel_rfl
theorem rIsScheme_4 (p : Int) (r : Int) (k : Int) (c : Int) (n : Nat) (q : Nat → Nat → Int) (N : Nat) (m : Nat) (x29 : Int) : LIsScheme_4 p r k c n q N  (m + 1) x29 =
    (bif (decide (x29 < ((n : Nat) : Int))) then (chk (decide ((0 ≤ x29) ∧ (x29 < ((n : Nat) : Int)))) <|
      bif (!(prodB p (W (r * k)) (W (k * c)) (W (r * c)) (nthI (intsFrom (q (Int.toNat x29)) 0 27)))) then (some ((AV.bool false), [], true)) else
      LIsScheme_4 p r k c n q N m (W (x29 + 1))) else
    some ((AV.bool true), [], true)) := by kernel_rfl

def SeqForm_2 (x : Nat → Int) (y : Nat → Int) (x5 : Int) : KS := ⟨[(2, (AV.lptr 2 0)), (3, (AV.lptr 3 0)), (5, I x5)], [(2, [B (x 0), B (x 1), B (x 2), B (x 3), B (x 4), B (x 5), B (x 6), B (x 7), B (x 8)]), (3, [B (y 0), B (y 1), B (y 2), B (y 3), B (y 4), B (y 5), B (y 6), B (y 7), B (y 8)])], [], 0, true⟩
noncomputable def LeqForm_2 (x : Nat → Int) (y : Nat → Int) (N : Nat) (m : Nat) (x5 : Int) : R := loopAtH Try.prog (kc (tabOf [])) 40 (rnd [] 40 N) 143 [] [true, false, true, false] [] m (SeqForm_2 x y x5) done
theorem seqForm (x : Nat → Int) (y : Nat → Int) (N : Nat) : fnK Try.prog (kc (tabOf [])) 40 (rnd [] 40 N) 143 [.agg (cellsI .u8 9 x), .agg (cellsI .u8 9 y)]  done =
    (LeqForm_2 x y N N 0) := by kernel_rfl
theorem reqForm_2 (x : Nat → Int) (y : Nat → Int) (N : Nat) (m : Nat) (x5 : Int) : LeqForm_2 x y N  (m + 1) x5 =
    (bif (decide (x5 < 9)) then (chk (decide ((0 ≤ x5) ∧ (x5 < 9))) <|
      chk (decide ((0 + ((Int.toNat x5) * 1)) < 9)) <|
      chk (decide ((0 ≤ x5) ∧ (x5 < 9))) <|
      chk (decide ((0 + ((Int.toNat x5) * 1)) < 9)) <|
      bif (!(decide ((pA x (0 + ((Int.toNat x5) * 1))) = (pA y (0 + ((Int.toNat x5) * 1)))))) then (some ((AV.bool false), [], true)) else
      LeqForm_2 x y N m (W (x5 + 1))) else
    some ((AV.bool true), [], true)) := by kernel_rfl

def SeqProductS_4 (n : Nat) (x : Nat → Nat → Int) (n' : Nat) (y : Nat → Nat → Int) (x5 : Int) : KS := ⟨[(0, (AV.vi .u8 27 n x)), (1, (AV.vi .u8 27 n' y)), (5, I x5)], [], [], 0, true⟩
noncomputable def LeqProductS_4 (n : Nat) (x : Nat → Nat → Int) (n' : Nat) (y : Nat → Nat → Int) (N : Nat) (m : Nat) (x5 : Int) : R := loopAtH Try.prog (kc (tabOf [e_eqForm])) 40 (rnd [] 40 N) 62 [] [true, true, false, true, false] [] m (SeqProductS_4 n x n' y x5) done
theorem seqProductS (n : Nat) (x : Nat → Nat → Int) (n' : Nat) (y : Nat → Nat → Int) (N : Nat) : fnK Try.prog (kc (tabOf [e_eqForm])) 40 (rnd [] 40 N) 62 [.vi .u8 27 n x, .vi .u8 27 n' y]  done =
    (bif (!(decide (((n : Nat) : Int) = ((n' : Nat) : Int)))) then (some ((AV.bool false), [], true)) else
    LeqProductS_4 n x n' y N N 0) := by kernel_rfl
theorem reqProductS_4 (n : Nat) (x : Nat → Nat → Int) (n' : Nat) (y : Nat → Nat → Int) (N : Nat) (m : Nat) (x5 : Int) : LeqProductS_4 n x n' y N  (m + 1) x5 =
    (bif (decide (x5 < ((n : Nat) : Int))) then (chk (decide ((0 ≤ x5) ∧ (x5 < ((n : Nat) : Int)))) <|
      chk (decide ((0 ≤ x5) ∧ (x5 < ((n' : Nat) : Int)))) <|
      bif (!(eq9 (pA (x (Int.toNat x5))) (pA (y (Int.toNat x5))))) then (some ((AV.bool false), [], true)) else
      bif (!(eq9 (pB (x (Int.toNat x5))) (pB (y (Int.toNat x5))))) then (some ((AV.bool false), [], true)) else
      bif (!(eq9 (pC (x (Int.toNat x5))) (pC (y (Int.toNat x5))))) then (some ((AV.bool false), [], true)) else
      LeqProductS_4 n x n' y N m (W (x5 + 1))) else
    some ((AV.bool true), [], true)) := by kernel_rfl

def StoProductS_3 (n : Nat) (x : Nat → Nat → Int) (x4 : Int) (qh0 : Nat → Nat → Int) : KS := ⟨[(0, (AV.vi .u8 27 n x)), (3, (AV.sl 0 0 n n)), (4, I x4)], [], [(KB.mk 63 27 (KR.ints .u8 27 n qh0))], 0, true⟩
noncomputable def LtoProductS_3 (n : Nat) (x : Nat → Nat → Int) (N : Nat) (m : Nat) (x4 : Int) (qh0 : Nat → Nat → Int) : R := loopAtH Try.prog (kc (tabOf [])) 40 (rnd [] 40 N) 59 [] [true, true, false, true, false] [] m (StoProductS_3 n x x4 qh0) done
theorem stoProductS (n : Nat) (x : Nat → Nat → Int) (N : Nat) : fnK Try.prog (kc (tabOf [])) 40 (rnd [] 40 N) 59 [.vi .u8 27 n x]  done =
    (chk (decide ((0 ≤ ((n : Nat) : Int)) ∧ ((((n : Nat) : Int) = ((n : Nat) : Int)) ∧ (((n : Nat) : Int) ≤ 4294967296)))) <|
    LtoProductS_3 n x N N 0 (fun a => (nthI [0, 0, 0, 0, 0, 0, 0, 0, 0, 0, 0, 0, 0, 0, 0, 0, 0, 0, 0, 0, 0, 0, 0, 0, 0, 0, 0]))) := by kernel_rfl
theorem rtoProductS_3 (n : Nat) (x : Nat → Nat → Int) (N : Nat) (m : Nat) (x4 : Int) (qh0 : Nat → Nat → Int) : LtoProductS_3 n x N  (m + 1) x4 qh0 =
    (bif (decide (x4 < ((n : Nat) : Int))) then (chk (decide ((0 ≤ x4) ∧ (x4 < ((n : Nat) : Int)))) <|
      chk (n == n) <|
      chk (decide ((0 ≤ x4) ∧ (x4 < ((n : Nat) : Int)))) <|
      chk (decide ((0 + n) ≤ n)) <|
      chk (n == n) <|
      chk (decide ((0 + (Int.toNat x4)) < n)) <|
      LtoProductS_3 n x N m (W (x4 + 1)) (fun a c => (bif (a == (0 + (Int.toNat x4))) then (nthI (intsFrom (x (Int.toNat x4)) 0 27) c) else (qh0 a c)))) else
    some ((AV.sl 0 0 n n), [(KB.mk 63 27 (KR.ints .u8 27 n qh0))], true)) := by kernel_rfl

end Go.Proofs.Ythbmlioknnhleaa.Fn
