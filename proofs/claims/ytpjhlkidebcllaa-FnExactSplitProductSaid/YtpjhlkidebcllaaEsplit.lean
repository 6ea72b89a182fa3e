/- Equations of the abstract machine for some functions and their loops, printed by a program. -/
import Derived.Test.YtpjhlkidebcllaaDa
import Derived.Test.YtpjhlkidebcllaaDk
import Derived.Test.YtpjhlkidebcllaaDplus
namespace Go.Proofs.Ytpjhlkidebcllaa.Fn
open Go Go.Proofs.Ytpjhlkidebcllaa.Abs
set_option maxRecDepth 100000
set_option linter.unusedVariables false
theorem sspecSplit0 (p : Int) (r : Int) (k : Int) (c : Int) (n : Nat) (q : Nat → Nat → Int) (i : Int) (y : Nat → Int) (N : Nat) : fnK Try.prog (kc (tabOf [e_l01Is, e_l01Form, e_l01Add, e_l03Told])) 40 (rnd [] 40 N) 41 [.agg [I p, I r, I k, I c, .vi .u8 27 n q], I i, I 0, .agg (cellsI .u8 9 y)]  done =
    (bif (!(isB p r k c n q)) then (some ((AV.tup [(AV.agg [I 0, I 0, I 0, I 0, AV.nilsl]), I 1]), [], true)) else
    bif (decide (0 ≤ i)) then (bif (!(decide (i ≤ (W (((n : Nat) : Int) - 1))))) then (some ((AV.tup [(AV.agg [I 0, I 0, I 0, I 0, AV.nilsl]), I 2]), [], true)) else
      bif (!(formB p (W (r * k)) (pA y))) then (some ((AV.tup [(AV.agg [I 0, I 0, I 0, I 0, AV.nilsl]), I 2]), [], true)) else
      bif (zero9 y) then (some ((AV.tup [(AV.agg [I 0, I 0, I 0, I 0, AV.nilsl]), I 5]), [], true)) else
      chk (decide ((0 ≤ i) ∧ (i < ((n : Nat) : Int)))) <|
      bif (decide ((intsFrom y 0 9) = (intsFrom (q (Int.toNat i)) 0 9))) then (some ((AV.tup [(AV.agg [I 0, I 0, I 0, I 0, AV.nilsl]), I 5]), [], true)) else
      bif (decide (((n : Nat) : Int) = 30)) then (some ((AV.tup [(AV.agg [I 0, I 0, I 0, I 0, AV.nilsl]), I 3]), [], true)) else
      chk (decide ((0 + n) ≤ 4294967296)) <|
      chk ((0 + n) == (0 + n)) <|
      chk (decide ((0 ≤ i) ∧ (i < (((0 + n) : Nat) : Int)))) <|
      chk (decide ((0 + (0 + n)) ≤ (0 + n))) <|
      chk ((0 + n) == (0 + n)) <|
      chk (decide ((0 + (Int.toNat i)) < (0 + n))) <|
      chk ((0 + n) == (0 + n)) <|
      chk (decide ((0 ≤ i) ∧ (i < (((0 + n) : Nat) : Int)))) <|
      chk (decide ((0 + (0 + n)) ≤ (0 + n))) <|
      chk ((0 + n) == (0 + n)) <|
      chk (decide ((0 + (Int.toNat i)) < (0 + n))) <|
      chk ((primeB p) && (true && ((mod9 p (pA (q ((0 + (Int.toNat i)) - 0)))) && (mod9 p (pA y))))) <|
      chk ((0 + n) == (0 + n)) <|
      chk (decide (((0 + n) + 1) ≤ 4294967296)) <|
      chk (decide ((0 + n) = (0 + n))) <|
      chk (((0 + n) + 1) == ((0 + n) + 1)) <|
      chk (decide ((0 + ((0 + n) + 1)) ≤ ((0 + n) + 1))) <|
      chk (decide (((0 + n) + 1) ≤ 1048576)) <|
      some ((AV.tup [(AV.agg [I p, I r, I k, I c, (AV.sl 0 0 (List.length (nzL ((0 + n) + 1) (canonI ((0 + n) + 1) 27 (fun a c1 => (bif (decide (a < (0 + n))) then (bif (a == (0 + (Int.toNat i))) then (prodQ y (pB (q ((0 + (Int.toNat i)) - 0))) (pC (q ((0 + (Int.toNat i)) - 0))) c1) else (q (a - 0) c1)) else (prodQ (sumQ p (-1) (pA (q ((0 + (Int.toNat i)) - 0))) (pA y)) (pB (q ((0 + (Int.toNat i)) - 0))) (pC (q ((0 + (Int.toNat i)) - 0))) c1)))))) (List.length (nzL ((0 + n) + 1) (canonI ((0 + n) + 1) 27 (fun a c1 => (bif (decide (a < (0 + n))) then (bif (a == (0 + (Int.toNat i))) then (prodQ y (pB (q ((0 + (Int.toNat i)) - 0))) (pC (q ((0 + (Int.toNat i)) - 0))) c1) else (q (a - 0) c1)) else (prodQ (sumQ p (-1) (pA (q ((0 + (Int.toNat i)) - 0))) (pA y)) (pB (q ((0 + (Int.toNat i)) - 0))) (pC (q ((0 + (Int.toNat i)) - 0))) c1)))))))]), I 0]), [(KB.mk 64 27 (KR.ints .u8 27 (List.length (nzL ((0 + n) + 1) (canonI ((0 + n) + 1) 27 (fun a c1 => (bif (decide (a < (0 + n))) then (bif (a == (0 + (Int.toNat i))) then (prodQ y (pB (q ((0 + (Int.toNat i)) - 0))) (pC (q ((0 + (Int.toNat i)) - 0))) c1) else (q (a - 0) c1)) else (prodQ (sumQ p (-1) (pA (q ((0 + (Int.toNat i)) - 0))) (pA y)) (pB (q ((0 + (Int.toNat i)) - 0))) (pC (q ((0 + (Int.toNat i)) - 0))) c1)))))) (keptQ ((0 + n) + 1) (canonI ((0 + n) + 1) 27 (fun a c1 => (bif (decide (a < (0 + n))) then (bif (a == (0 + (Int.toNat i))) then (prodQ y (pB (q ((0 + (Int.toNat i)) - 0))) (pC (q ((0 + (Int.toNat i)) - 0))) c1) else (q (a - 0) c1)) else (prodQ (sumQ p (-1) (pA (q ((0 + (Int.toNat i)) - 0))) (pA y)) (pB (q ((0 + (Int.toNat i)) - 0))) (pC (q ((0 + (Int.toNat i)) - 0))) c1)))))))], true)) else
    some ((AV.tup [(AV.agg [I 0, I 0, I 0, I 0, AV.nilsl]), I 2]), [], true)) := by kernel_rfl

theorem simplSplit0 (p : Int) (r : Int) (k : Int) (c : Int) (n : Nat) (q : Nat → Nat → Int) (i : Int) (y : Nat → Int) (N : Nat) : fnK Try.prog (kc (tabOf [e_IsScheme, e_isForm, e_sum])) 40 (rnd [] 40 N) 43 [.agg [I p, I r, I k, I c, .vi .u8 27 n q], I i, I 0, .agg (cellsI .u8 9 y)]  done =
    (bif (!(isB p r k c n q)) then (some ((AV.tup [(AV.agg [I 0, I 0, I 0, I 0, AV.nilsl]), I 1]), [], true)) else
    bif (decide (i < 0)) then (some ((AV.tup [(AV.agg [I 0, I 0, I 0, I 0, AV.nilsl]), I 2]), [], true)) else
    bif (decide (((n : Nat) : Int) ≤ i)) then (some ((AV.tup [(AV.agg [I 0, I 0, I 0, I 0, AV.nilsl]), I 2]), [], true)) else
    bif (!(formB p (W (r * k)) (pA y))) then (some ((AV.tup [(AV.agg [I 0, I 0, I 0, I 0, AV.nilsl]), I 2]), [], true)) else
    chk (decide ((0 ≤ i) ∧ (i < ((n : Nat) : Int)))) <|
    bif (zero9 y) then (some ((AV.tup [(AV.agg [I 0, I 0, I 0, I 0, AV.nilsl]), I 5]), [], true)) else
    bif (decide ((intsFrom y 0 9) = (intsFrom (q (Int.toNat i)) 0 9))) then (some ((AV.tup [(AV.agg [I 0, I 0, I 0, I 0, AV.nilsl]), I 5]), [], true)) else
    bif (decide (((n : Nat) : Int) = 30)) then (some ((AV.tup [(AV.agg [I 0, I 0, I 0, I 0, AV.nilsl]), I 3]), [], true)) else
    chk ((primeB p) && ((decide ((0 ≤ (W (p - 1))) ∧ ((W (p - 1)) ≤ 100))) && ((mod9 p (pA (q (Int.toNat i)))) && (mod9 p (pA y))))) <|
    chkn (decide ((n = 0) ∧ (Not ((q 0 0) = 0)))) <|
    chk (decide ((0 + n) ≤ 4294967296)) <|
    chk ((0 + n) == (0 + n)) <|
    chk (decide ((0 ≤ i) ∧ (i < (((0 + n) : Nat) : Int)))) <|
    chk (decide ((0 + (0 + n)) ≤ (0 + n))) <|
    chk ((0 + n) == (0 + n)) <|
    chk (decide ((0 + (Int.toNat i)) < (0 + n))) <|
    chk ((0 + n) == (0 + n)) <|
    chk (decide (((0 + n) + 1) ≤ 4294967296)) <|
    chk (decide ((0 + n) = (0 + n))) <|
    some ((AV.tup [(AV.agg [I p, I r, I k, I c, (AV.sl 0 0 ((0 + n) + 1) ((0 + n) + 1))]), I 0]), [(KB.mk 64 27 (KR.ints .u8 27 ((0 + n) + 1) (fun a c1 => (bif (decide (a < (0 + n))) then (bif (a == (0 + (Int.toNat i))) then (prodQ y (pB (q (Int.toNat i))) (pC (q (Int.toNat i))) c1) else (q (a - 0) c1)) else (prodQ (sumQ p (W (p - 1)) (pA (q (Int.toNat i))) (pA y)) (pB (q (Int.toNat i))) (pC (q (Int.toNat i))) c1)))))], true)) := by kernel_rfl

theorem sspecSplit1 (p : Int) (r : Int) (k : Int) (c : Int) (n : Nat) (q : Nat → Nat → Int) (i : Int) (y : Nat → Int) (N : Nat) : fnK Try.prog (kc (tabOf [e_l01Is, e_l01Form, e_l01Add, e_l03Told])) 40 (rnd [] 40 N) 41 [.agg [I p, I r, I k, I c, .vi .u8 27 n q], I i, I 1, .agg (cellsI .u8 9 y)]  done =
    (bif (!(isB p r k c n q)) then (some ((AV.tup [(AV.agg [I 0, I 0, I 0, I 0, AV.nilsl]), I 1]), [], true)) else
    bif (decide (0 ≤ i)) then (bif (!(decide (i ≤ (W (((n : Nat) : Int) - 1))))) then (some ((AV.tup [(AV.agg [I 0, I 0, I 0, I 0, AV.nilsl]), I 2]), [], true)) else
      bif (!(formB p (W (k * c)) (pA y))) then (some ((AV.tup [(AV.agg [I 0, I 0, I 0, I 0, AV.nilsl]), I 2]), [], true)) else
      bif (zero9 y) then (some ((AV.tup [(AV.agg [I 0, I 0, I 0, I 0, AV.nilsl]), I 5]), [], true)) else
      chk (decide ((0 ≤ i) ∧ (i < ((n : Nat) : Int)))) <|
      bif (decide ((intsFrom y 0 9) = (intsFrom (q (Int.toNat i)) 9 9))) then (some ((AV.tup [(AV.agg [I 0, I 0, I 0, I 0, AV.nilsl]), I 5]), [], true)) else
      bif (decide (((n : Nat) : Int) = 30)) then (some ((AV.tup [(AV.agg [I 0, I 0, I 0, I 0, AV.nilsl]), I 3]), [], true)) else
      chk (decide ((0 + n) ≤ 4294967296)) <|
      chk ((0 + n) == (0 + n)) <|
      chk (decide ((0 ≤ i) ∧ (i < (((0 + n) : Nat) : Int)))) <|
      chk (decide ((0 + (0 + n)) ≤ (0 + n))) <|
      chk ((0 + n) == (0 + n)) <|
      chk (decide ((0 + (Int.toNat i)) < (0 + n))) <|
      chk ((0 + n) == (0 + n)) <|
      chk (decide ((0 ≤ i) ∧ (i < (((0 + n) : Nat) : Int)))) <|
      chk (decide ((0 + (0 + n)) ≤ (0 + n))) <|
      chk ((0 + n) == (0 + n)) <|
      chk (decide ((0 + (Int.toNat i)) < (0 + n))) <|
      chk ((primeB p) && (true && ((mod9 p (pB (q ((0 + (Int.toNat i)) - 0)))) && (mod9 p (pA y))))) <|
      chk ((0 + n) == (0 + n)) <|
      chk (decide (((0 + n) + 1) ≤ 4294967296)) <|
      chk (decide ((0 + n) = (0 + n))) <|
      chk (((0 + n) + 1) == ((0 + n) + 1)) <|
      chk (decide ((0 + ((0 + n) + 1)) ≤ ((0 + n) + 1))) <|
      chk (decide (((0 + n) + 1) ≤ 1048576)) <|
      some ((AV.tup [(AV.agg [I p, I r, I k, I c, (AV.sl 0 0 (List.length (nzL ((0 + n) + 1) (canonI ((0 + n) + 1) 27 (fun a c1 => (bif (decide (a < (0 + n))) then (bif (a == (0 + (Int.toNat i))) then (prodQ (q ((0 + (Int.toNat i)) - 0)) y (pC (q ((0 + (Int.toNat i)) - 0))) c1) else (q (a - 0) c1)) else (prodQ (q ((0 + (Int.toNat i)) - 0)) (sumQ p (-1) (pB (q ((0 + (Int.toNat i)) - 0))) (pA y)) (pC (q ((0 + (Int.toNat i)) - 0))) c1)))))) (List.length (nzL ((0 + n) + 1) (canonI ((0 + n) + 1) 27 (fun a c1 => (bif (decide (a < (0 + n))) then (bif (a == (0 + (Int.toNat i))) then (prodQ (q ((0 + (Int.toNat i)) - 0)) y (pC (q ((0 + (Int.toNat i)) - 0))) c1) else (q (a - 0) c1)) else (prodQ (q ((0 + (Int.toNat i)) - 0)) (sumQ p (-1) (pB (q ((0 + (Int.toNat i)) - 0))) (pA y)) (pC (q ((0 + (Int.toNat i)) - 0))) c1)))))))]), I 0]), [(KB.mk 64 27 (KR.ints .u8 27 (List.length (nzL ((0 + n) + 1) (canonI ((0 + n) + 1) 27 (fun a c1 => (bif (decide (a < (0 + n))) then (bif (a == (0 + (Int.toNat i))) then (prodQ (q ((0 + (Int.toNat i)) - 0)) y (pC (q ((0 + (Int.toNat i)) - 0))) c1) else (q (a - 0) c1)) else (prodQ (q ((0 + (Int.toNat i)) - 0)) (sumQ p (-1) (pB (q ((0 + (Int.toNat i)) - 0))) (pA y)) (pC (q ((0 + (Int.toNat i)) - 0))) c1)))))) (keptQ ((0 + n) + 1) (canonI ((0 + n) + 1) 27 (fun a c1 => (bif (decide (a < (0 + n))) then (bif (a == (0 + (Int.toNat i))) then (prodQ (q ((0 + (Int.toNat i)) - 0)) y (pC (q ((0 + (Int.toNat i)) - 0))) c1) else (q (a - 0) c1)) else (prodQ (q ((0 + (Int.toNat i)) - 0)) (sumQ p (-1) (pB (q ((0 + (Int.toNat i)) - 0))) (pA y)) (pC (q ((0 + (Int.toNat i)) - 0))) c1)))))))], true)) else
    some ((AV.tup [(AV.agg [I 0, I 0, I 0, I 0, AV.nilsl]), I 2]), [], true)) := by kernel_rfl

theorem simplSplit1 (p : Int) (r : Int) (k : Int) (c : Int) (n : Nat) (q : Nat → Nat → Int) (i : Int) (y : Nat → Int) (N : Nat) : fnK Try.prog (kc (tabOf [e_IsScheme, e_isForm, e_sum])) 40 (rnd [] 40 N) 43 [.agg [I p, I r, I k, I c, .vi .u8 27 n q], I i, I 1, .agg (cellsI .u8 9 y)]  done =
    (bif (!(isB p r k c n q)) then (some ((AV.tup [(AV.agg [I 0, I 0, I 0, I 0, AV.nilsl]), I 1]), [], true)) else
    bif (decide (i < 0)) then (some ((AV.tup [(AV.agg [I 0, I 0, I 0, I 0, AV.nilsl]), I 2]), [], true)) else
    bif (decide (((n : Nat) : Int) ≤ i)) then (some ((AV.tup [(AV.agg [I 0, I 0, I 0, I 0, AV.nilsl]), I 2]), [], true)) else
    bif (!(formB p (W (k * c)) (pA y))) then (some ((AV.tup [(AV.agg [I 0, I 0, I 0, I 0, AV.nilsl]), I 2]), [], true)) else
    chk (decide ((0 ≤ i) ∧ (i < ((n : Nat) : Int)))) <|
    bif (zero9 y) then (some ((AV.tup [(AV.agg [I 0, I 0, I 0, I 0, AV.nilsl]), I 5]), [], true)) else
    bif (decide ((intsFrom y 0 9) = (intsFrom (q (Int.toNat i)) 9 9))) then (some ((AV.tup [(AV.agg [I 0, I 0, I 0, I 0, AV.nilsl]), I 5]), [], true)) else
    bif (decide (((n : Nat) : Int) = 30)) then (some ((AV.tup [(AV.agg [I 0, I 0, I 0, I 0, AV.nilsl]), I 3]), [], true)) else
    chk ((primeB p) && ((decide ((0 ≤ (W (p - 1))) ∧ ((W (p - 1)) ≤ 100))) && ((mod9 p (pB (q (Int.toNat i)))) && (mod9 p (pA y))))) <|
    chkn (decide ((n = 0) ∧ (Not ((q 0 0) = 0)))) <|
    chk (decide ((0 + n) ≤ 4294967296)) <|
    chk ((0 + n) == (0 + n)) <|
    chk (decide ((0 ≤ i) ∧ (i < (((0 + n) : Nat) : Int)))) <|
    chk (decide ((0 + (0 + n)) ≤ (0 + n))) <|
    chk ((0 + n) == (0 + n)) <|
    chk (decide ((0 + (Int.toNat i)) < (0 + n))) <|
    chk ((0 + n) == (0 + n)) <|
    chk (decide (((0 + n) + 1) ≤ 4294967296)) <|
    chk (decide ((0 + n) = (0 + n))) <|
    some ((AV.tup [(AV.agg [I p, I r, I k, I c, (AV.sl 0 0 ((0 + n) + 1) ((0 + n) + 1))]), I 0]), [(KB.mk 64 27 (KR.ints .u8 27 ((0 + n) + 1) (fun a c1 => (bif (decide (a < (0 + n))) then (bif (a == (0 + (Int.toNat i))) then (prodQ (q (Int.toNat i)) y (pC (q (Int.toNat i))) c1) else (q (a - 0) c1)) else (prodQ (q (Int.toNat i)) (sumQ p (W (p - 1)) (pB (q (Int.toNat i))) (pA y)) (pC (q (Int.toNat i))) c1)))))], true)) := by kernel_rfl

theorem sspecSplit2 (p : Int) (r : Int) (k : Int) (c : Int) (n : Nat) (q : Nat → Nat → Int) (i : Int) (y : Nat → Int) (N : Nat) : fnK Try.prog (kc (tabOf [e_l01Is, e_l01Form, e_l01Add, e_l03Told])) 40 (rnd [] 40 N) 41 [.agg [I p, I r, I k, I c, .vi .u8 27 n q], I i, I 2, .agg (cellsI .u8 9 y)]  done =
    (bif (!(isB p r k c n q)) then (some ((AV.tup [(AV.agg [I 0, I 0, I 0, I 0, AV.nilsl]), I 1]), [], true)) else
    bif (decide (0 ≤ i)) then (bif (!(decide (i ≤ (W (((n : Nat) : Int) - 1))))) then (some ((AV.tup [(AV.agg [I 0, I 0, I 0, I 0, AV.nilsl]), I 2]), [], true)) else
      bif (!(formB p (W (r * c)) (pA y))) then (some ((AV.tup [(AV.agg [I 0, I 0, I 0, I 0, AV.nilsl]), I 2]), [], true)) else
      bif (zero9 y) then (some ((AV.tup [(AV.agg [I 0, I 0, I 0, I 0, AV.nilsl]), I 5]), [], true)) else
      chk (decide ((0 ≤ i) ∧ (i < ((n : Nat) : Int)))) <|
      bif (decide ((intsFrom y 0 9) = (intsFrom (q (Int.toNat i)) 18 9))) then (some ((AV.tup [(AV.agg [I 0, I 0, I 0, I 0, AV.nilsl]), I 5]), [], true)) else
      bif (decide (((n : Nat) : Int) = 30)) then (some ((AV.tup [(AV.agg [I 0, I 0, I 0, I 0, AV.nilsl]), I 3]), [], true)) else
      chk (decide ((0 + n) ≤ 4294967296)) <|
      chk ((0 + n) == (0 + n)) <|
      chk (decide ((0 ≤ i) ∧ (i < (((0 + n) : Nat) : Int)))) <|
      chk (decide ((0 + (0 + n)) ≤ (0 + n))) <|
      chk ((0 + n) == (0 + n)) <|
      chk (decide ((0 + (Int.toNat i)) < (0 + n))) <|
      chk ((0 + n) == (0 + n)) <|
      chk (decide ((0 ≤ i) ∧ (i < (((0 + n) : Nat) : Int)))) <|
      chk (decide ((0 + (0 + n)) ≤ (0 + n))) <|
      chk ((0 + n) == (0 + n)) <|
      chk (decide ((0 + (Int.toNat i)) < (0 + n))) <|
      chk ((primeB p) && (true && ((mod9 p (pC (q ((0 + (Int.toNat i)) - 0)))) && (mod9 p (pA y))))) <|
      chk ((0 + n) == (0 + n)) <|
      chk (decide (((0 + n) + 1) ≤ 4294967296)) <|
      chk (decide ((0 + n) = (0 + n))) <|
      chk (((0 + n) + 1) == ((0 + n) + 1)) <|
      chk (decide ((0 + ((0 + n) + 1)) ≤ ((0 + n) + 1))) <|
      chk (decide (((0 + n) + 1) ≤ 1048576)) <|
      some ((AV.tup [(AV.agg [I p, I r, I k, I c, (AV.sl 0 0 (List.length (nzL ((0 + n) + 1) (canonI ((0 + n) + 1) 27 (fun a c1 => (bif (decide (a < (0 + n))) then (bif (a == (0 + (Int.toNat i))) then (prodQ (q ((0 + (Int.toNat i)) - 0)) (pB (q ((0 + (Int.toNat i)) - 0))) y c1) else (q (a - 0) c1)) else (prodQ (q ((0 + (Int.toNat i)) - 0)) (pB (q ((0 + (Int.toNat i)) - 0))) (sumQ p (-1) (pC (q ((0 + (Int.toNat i)) - 0))) (pA y)) c1)))))) (List.length (nzL ((0 + n) + 1) (canonI ((0 + n) + 1) 27 (fun a c1 => (bif (decide (a < (0 + n))) then (bif (a == (0 + (Int.toNat i))) then (prodQ (q ((0 + (Int.toNat i)) - 0)) (pB (q ((0 + (Int.toNat i)) - 0))) y c1) else (q (a - 0) c1)) else (prodQ (q ((0 + (Int.toNat i)) - 0)) (pB (q ((0 + (Int.toNat i)) - 0))) (sumQ p (-1) (pC (q ((0 + (Int.toNat i)) - 0))) (pA y)) c1)))))))]), I 0]), [(KB.mk 64 27 (KR.ints .u8 27 (List.length (nzL ((0 + n) + 1) (canonI ((0 + n) + 1) 27 (fun a c1 => (bif (decide (a < (0 + n))) then (bif (a == (0 + (Int.toNat i))) then (prodQ (q ((0 + (Int.toNat i)) - 0)) (pB (q ((0 + (Int.toNat i)) - 0))) y c1) else (q (a - 0) c1)) else (prodQ (q ((0 + (Int.toNat i)) - 0)) (pB (q ((0 + (Int.toNat i)) - 0))) (sumQ p (-1) (pC (q ((0 + (Int.toNat i)) - 0))) (pA y)) c1)))))) (keptQ ((0 + n) + 1) (canonI ((0 + n) + 1) 27 (fun a c1 => (bif (decide (a < (0 + n))) then (bif (a == (0 + (Int.toNat i))) then (prodQ (q ((0 + (Int.toNat i)) - 0)) (pB (q ((0 + (Int.toNat i)) - 0))) y c1) else (q (a - 0) c1)) else (prodQ (q ((0 + (Int.toNat i)) - 0)) (pB (q ((0 + (Int.toNat i)) - 0))) (sumQ p (-1) (pC (q ((0 + (Int.toNat i)) - 0))) (pA y)) c1)))))))], true)) else
    some ((AV.tup [(AV.agg [I 0, I 0, I 0, I 0, AV.nilsl]), I 2]), [], true)) := by kernel_rfl

theorem simplSplit2 (p : Int) (r : Int) (k : Int) (c : Int) (n : Nat) (q : Nat → Nat → Int) (i : Int) (y : Nat → Int) (N : Nat) : fnK Try.prog (kc (tabOf [e_IsScheme, e_isForm, e_sum])) 40 (rnd [] 40 N) 43 [.agg [I p, I r, I k, I c, .vi .u8 27 n q], I i, I 2, .agg (cellsI .u8 9 y)]  done =
    (bif (!(isB p r k c n q)) then (some ((AV.tup [(AV.agg [I 0, I 0, I 0, I 0, AV.nilsl]), I 1]), [], true)) else
    bif (decide (i < 0)) then (some ((AV.tup [(AV.agg [I 0, I 0, I 0, I 0, AV.nilsl]), I 2]), [], true)) else
    bif (decide (((n : Nat) : Int) ≤ i)) then (some ((AV.tup [(AV.agg [I 0, I 0, I 0, I 0, AV.nilsl]), I 2]), [], true)) else
    bif (!(formB p (W (r * c)) (pA y))) then (some ((AV.tup [(AV.agg [I 0, I 0, I 0, I 0, AV.nilsl]), I 2]), [], true)) else
    chk (decide ((0 ≤ i) ∧ (i < ((n : Nat) : Int)))) <|
    bif (zero9 y) then (some ((AV.tup [(AV.agg [I 0, I 0, I 0, I 0, AV.nilsl]), I 5]), [], true)) else
    bif (decide ((intsFrom y 0 9) = (intsFrom (q (Int.toNat i)) 18 9))) then (some ((AV.tup [(AV.agg [I 0, I 0, I 0, I 0, AV.nilsl]), I 5]), [], true)) else
    bif (decide (((n : Nat) : Int) = 30)) then (some ((AV.tup [(AV.agg [I 0, I 0, I 0, I 0, AV.nilsl]), I 3]), [], true)) else
    chk ((primeB p) && ((decide ((0 ≤ (W (p - 1))) ∧ ((W (p - 1)) ≤ 100))) && ((mod9 p (pC (q (Int.toNat i)))) && (mod9 p (pA y))))) <|
    chkn (decide ((n = 0) ∧ (Not ((q 0 0) = 0)))) <|
    chk (decide ((0 + n) ≤ 4294967296)) <|
    chk ((0 + n) == (0 + n)) <|
    chk (decide ((0 ≤ i) ∧ (i < (((0 + n) : Nat) : Int)))) <|
    chk (decide ((0 + (0 + n)) ≤ (0 + n))) <|
    chk ((0 + n) == (0 + n)) <|
    chk (decide ((0 + (Int.toNat i)) < (0 + n))) <|
    chk ((0 + n) == (0 + n)) <|
    chk (decide (((0 + n) + 1) ≤ 4294967296)) <|
    chk (decide ((0 + n) = (0 + n))) <|
    some ((AV.tup [(AV.agg [I p, I r, I k, I c, (AV.sl 0 0 ((0 + n) + 1) ((0 + n) + 1))]), I 0]), [(KB.mk 64 27 (KR.ints .u8 27 ((0 + n) + 1) (fun a c1 => (bif (decide (a < (0 + n))) then (bif (a == (0 + (Int.toNat i))) then (prodQ (q (Int.toNat i)) (pB (q (Int.toNat i))) y c1) else (q (a - 0) c1)) else (prodQ (q (Int.toNat i)) (pB (q (Int.toNat i))) (sumQ p (W (p - 1)) (pC (q (Int.toNat i))) (pA y)) c1)))))], true)) := by kernel_rfl

theorem sspecSplitE (p : Int) (r : Int) (k : Int) (c : Int) (n : Nat) (q : Nat → Nat → Int) (i : Int) (f : Int) (y : Nat → Int) (N : Nat) : fnK Try.prog (kc (tabOf [e_l01Is, e_noLength])) 40 (rnd [] 40 N) 41 [.agg [I p, I r, I k, I c, .vi .u8 27 n q], I i, I f, .agg (cellsI .u8 9 y)]  done =
    (bif (!(isB p r k c n q)) then (some ((AV.tup [(AV.agg [I 0, I 0, I 0, I 0, AV.nilsl]), I 1]), [], true)) else
    bif (decide (0 ≤ i)) then (bif (!(decide (i ≤ (W (((n : Nat) : Int) - 1))))) then (some ((AV.tup [(AV.agg [I 0, I 0, I 0, I 0, AV.nilsl]), I 2]), [], true)) else
      bif (decide (0 ≤ f)) then (chk (!(decide (f ≤ 2))) <|
        some ((AV.tup [(AV.agg [I 0, I 0, I 0, I 0, AV.nilsl]), I 2]), [], true)) else
      some ((AV.tup [(AV.agg [I 0, I 0, I 0, I 0, AV.nilsl]), I 2]), [], true)) else
    some ((AV.tup [(AV.agg [I 0, I 0, I 0, I 0, AV.nilsl]), I 2]), [], true)) := by kernel_rfl

theorem simplSplitE (p : Int) (r : Int) (k : Int) (c : Int) (n : Nat) (q : Nat → Nat → Int) (i : Int) (f : Int) (y : Nat → Int) (N : Nat) : fnK Try.prog (kc (tabOf [e_IsScheme, e_noPlaces])) 40 (rnd [] 40 N) 43 [.agg [I p, I r, I k, I c, .vi .u8 27 n q], I i, I f, .agg (cellsI .u8 9 y)]  done =
    (bif (!(isB p r k c n q)) then (some ((AV.tup [(AV.agg [I 0, I 0, I 0, I 0, AV.nilsl]), I 1]), [], true)) else
    bif (decide (i < 0)) then (some ((AV.tup [(AV.agg [I 0, I 0, I 0, I 0, AV.nilsl]), I 2]), [], true)) else
    bif (decide (((n : Nat) : Int) ≤ i)) then (some ((AV.tup [(AV.agg [I 0, I 0, I 0, I 0, AV.nilsl]), I 2]), [], true)) else
    bif (decide (f < 0)) then (some ((AV.tup [(AV.agg [I 0, I 0, I 0, I 0, AV.nilsl]), I 2]), [], true)) else
    chk (decide (2 < f)) <|
    some ((AV.tup [(AV.agg [I 0, I 0, I 0, I 0, AV.nilsl]), I 2]), [], true)) := by kernel_rfl

end Go.Proofs.Ytpjhlkidebcllaa.Fn
