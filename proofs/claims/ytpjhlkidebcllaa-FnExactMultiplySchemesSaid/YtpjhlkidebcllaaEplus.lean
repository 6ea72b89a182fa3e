/- Equations of the abstract machine for some functions and their loops, printed by a program. -/
import Derived.Test.YtpjhlkidebcllaaDa
import Derived.Test.YtpjhlkidebcllaaDk
import Derived.Test.YtpjhlkidebcllaaDplus
namespace Go.Proofs.Ytpjhlkidebcllaa.Fn
open Go Go.Proofs.Ytpjhlkidebcllaa.Abs
set_option maxRecDepth 100000
set_option linter.unusedVariables false
theorem sspecPlus (p : Int) (r : Int) (k : Int) (c : Int) (n : Nat) (q : Nat → Nat → Int) (i : Int) (j : Int) (N : Nat) : fnK Try.prog (kc (tabOf [e_l01Is, e_l01Add, e_l03Told])) 40 (rnd [] 40 N) 39 [.agg [I p, I r, I k, I c, .vi .u8 27 n q], I i, I j]  done =
    (bif (!(isB p r k c n q)) then (some ((AV.tup [(AV.agg [I 0, I 0, I 0, I 0, AV.nilsl]), I 1]), [], true)) else
    bif (decide (0 ≤ i)) then (bif (!(decide (i ≤ (W (((n : Nat) : Int) - 1))))) then (some ((AV.tup [(AV.agg [I 0, I 0, I 0, I 0, AV.nilsl]), I 2]), [], true)) else
      bif (decide (0 ≤ j)) then (bif (!(decide (j ≤ (W (((n : Nat) : Int) - 1))))) then (some ((AV.tup [(AV.agg [I 0, I 0, I 0, I 0, AV.nilsl]), I 2]), [], true)) else
        bif (decide (i = j)) then (some ((AV.tup [(AV.agg [I 0, I 0, I 0, I 0, AV.nilsl]), I 5]), [], true)) else
        bif (decide (((n : Nat) : Int) = 30)) then (some ((AV.tup [(AV.agg [I 0, I 0, I 0, I 0, AV.nilsl]), I 3]), [], true)) else
        chk (decide ((0 + n) ≤ 4294967296)) <|
        chk ((0 + n) == (0 + n)) <|
        chk (decide ((0 ≤ i) ∧ (i < (((0 + n) : Nat) : Int)))) <|
        chk (decide ((0 + (0 + n)) ≤ (0 + n))) <|
        chk ((0 + n) == (0 + n)) <|
        chk (decide ((0 + (Int.toNat i)) < (0 + n))) <|
        chk ((0 + n) == (0 + n)) <|
        chk (decide ((0 ≤ j) ∧ (j < (((0 + n) : Nat) : Int)))) <|
        chk (decide ((0 + (0 + n)) ≤ (0 + n))) <|
        chk ((0 + n) == (0 + n)) <|
        chk (decide ((0 + (Int.toNat j)) < (0 + n))) <|
        chk ((primeB p) && (true && ((mod9 p (pA (q ((0 + (Int.toNat i)) - 0)))) && (mod9 p (pA (q ((0 + (Int.toNat j)) - 0))))))) <|
        chk ((0 + n) == (0 + n)) <|
        chk (decide ((0 ≤ i) ∧ (i < (((0 + n) : Nat) : Int)))) <|
        chk (decide ((0 + (0 + n)) ≤ (0 + n))) <|
        chk ((0 + n) == (0 + n)) <|
        chk (decide ((0 + (Int.toNat i)) < (0 + n))) <|
        chk ((primeB p) && (true && ((mod9 p (pC (q ((0 + (Int.toNat i)) - 0)))) && (mod9 p (pC (q ((0 + (Int.toNat j)) - 0))))))) <|
        chk ((0 + n) == (0 + n)) <|
        chk (decide ((0 ≤ j) ∧ (j < (((0 + n) : Nat) : Int)))) <|
        chk (decide ((0 + (0 + n)) ≤ (0 + n))) <|
        chk ((0 + n) == (0 + n)) <|
        chk (decide ((0 + (Int.toNat j)) < (0 + n))) <|
        chk ((primeB p) && (true && ((mod9 p (pB (q ((0 + (Int.toNat j)) - 0)))) && (mod9 p (pB (q ((0 + (Int.toNat i)) - 0))))))) <|
        chk ((0 + n) == (0 + n)) <|
        chk (decide (((0 + n) + 1) ≤ 4294967296)) <|
        chk (decide ((0 + n) = (0 + n))) <|
        chk (((0 + n) + 1) == ((0 + n) + 1)) <|
        chk (decide ((0 + ((0 + n) + 1)) ≤ ((0 + n) + 1))) <|
        chk (decide (((0 + n) + 1) ≤ 1048576)) <|
        some ((AV.tup [(AV.agg [I p, I r, I k, I c, (AV.sl 0 0 (List.length (nzL ((0 + n) + 1) (canonI ((0 + n) + 1) 27 (fun a c1 => (bif (decide (a < (0 + n))) then (bif (a == (0 + (Int.toNat j))) then (prodQ (q ((0 + (Int.toNat j)) - 0)) (pB (q ((0 + (Int.toNat i)) - 0))) (sumQ p 1 (pC (q ((0 + (Int.toNat i)) - 0))) (pC (q ((0 + (Int.toNat j)) - 0)))) c1) else (bif (a == (0 + (Int.toNat i))) then (prodQ (sumQ p (-1) (pA (q ((0 + (Int.toNat i)) - 0))) (pA (q ((0 + (Int.toNat j)) - 0)))) (pB (q ((0 + (Int.toNat i)) - 0))) (pC (q ((0 + (Int.toNat i)) - 0))) c1) else (q (a - 0) c1))) else (prodQ (q ((0 + (Int.toNat j)) - 0)) (sumQ p (-1) (pB (q ((0 + (Int.toNat j)) - 0))) (pB (q ((0 + (Int.toNat i)) - 0)))) (pC (q ((0 + (Int.toNat j)) - 0))) c1)))))) (List.length (nzL ((0 + n) + 1) (canonI ((0 + n) + 1) 27 (fun a c1 => (bif (decide (a < (0 + n))) then (bif (a == (0 + (Int.toNat j))) then (prodQ (q ((0 + (Int.toNat j)) - 0)) (pB (q ((0 + (Int.toNat i)) - 0))) (sumQ p 1 (pC (q ((0 + (Int.toNat i)) - 0))) (pC (q ((0 + (Int.toNat j)) - 0)))) c1) else (bif (a == (0 + (Int.toNat i))) then (prodQ (sumQ p (-1) (pA (q ((0 + (Int.toNat i)) - 0))) (pA (q ((0 + (Int.toNat j)) - 0)))) (pB (q ((0 + (Int.toNat i)) - 0))) (pC (q ((0 + (Int.toNat i)) - 0))) c1) else (q (a - 0) c1))) else (prodQ (q ((0 + (Int.toNat j)) - 0)) (sumQ p (-1) (pB (q ((0 + (Int.toNat j)) - 0))) (pB (q ((0 + (Int.toNat i)) - 0)))) (pC (q ((0 + (Int.toNat j)) - 0))) c1)))))))]), I 0]), [(KB.mk 64 27 (KR.ints .u8 27 (List.length (nzL ((0 + n) + 1) (canonI ((0 + n) + 1) 27 (fun a c1 => (bif (decide (a < (0 + n))) then (bif (a == (0 + (Int.toNat j))) then (prodQ (q ((0 + (Int.toNat j)) - 0)) (pB (q ((0 + (Int.toNat i)) - 0))) (sumQ p 1 (pC (q ((0 + (Int.toNat i)) - 0))) (pC (q ((0 + (Int.toNat j)) - 0)))) c1) else (bif (a == (0 + (Int.toNat i))) then (prodQ (sumQ p (-1) (pA (q ((0 + (Int.toNat i)) - 0))) (pA (q ((0 + (Int.toNat j)) - 0)))) (pB (q ((0 + (Int.toNat i)) - 0))) (pC (q ((0 + (Int.toNat i)) - 0))) c1) else (q (a - 0) c1))) else (prodQ (q ((0 + (Int.toNat j)) - 0)) (sumQ p (-1) (pB (q ((0 + (Int.toNat j)) - 0))) (pB (q ((0 + (Int.toNat i)) - 0)))) (pC (q ((0 + (Int.toNat j)) - 0))) c1)))))) (keptQ ((0 + n) + 1) (canonI ((0 + n) + 1) 27 (fun a c1 => (bif (decide (a < (0 + n))) then (bif (a == (0 + (Int.toNat j))) then (prodQ (q ((0 + (Int.toNat j)) - 0)) (pB (q ((0 + (Int.toNat i)) - 0))) (sumQ p 1 (pC (q ((0 + (Int.toNat i)) - 0))) (pC (q ((0 + (Int.toNat j)) - 0)))) c1) else (bif (a == (0 + (Int.toNat i))) then (prodQ (sumQ p (-1) (pA (q ((0 + (Int.toNat i)) - 0))) (pA (q ((0 + (Int.toNat j)) - 0)))) (pB (q ((0 + (Int.toNat i)) - 0))) (pC (q ((0 + (Int.toNat i)) - 0))) c1) else (q (a - 0) c1))) else (prodQ (q ((0 + (Int.toNat j)) - 0)) (sumQ p (-1) (pB (q ((0 + (Int.toNat j)) - 0))) (pB (q ((0 + (Int.toNat i)) - 0)))) (pC (q ((0 + (Int.toNat j)) - 0))) c1)))))))], true)) else
      some ((AV.tup [(AV.agg [I 0, I 0, I 0, I 0, AV.nilsl]), I 2]), [], true)) else
    some ((AV.tup [(AV.agg [I 0, I 0, I 0, I 0, AV.nilsl]), I 2]), [], true)) := by kernel_rfl

theorem simplPlus (p : Int) (r : Int) (k : Int) (c : Int) (n : Nat) (q : Nat → Nat → Int) (i : Int) (j : Int) (N : Nat) : fnK Try.prog (kc (tabOf [e_IsScheme, e_sum]) (mtabOf [m_kept])) 40 (rnd [] 40 N) 40 [.agg [I p, I r, I k, I c, .vi .u8 27 n q], I i, I j]  done =
    (bif (!(isB p r k c n q)) then (some ((AV.tup [(AV.agg [I 0, I 0, I 0, I 0, AV.nilsl]), I 1]), [], true)) else
    bif (decide (i < 0)) then (some ((AV.tup [(AV.agg [I 0, I 0, I 0, I 0, AV.nilsl]), I 2]), [], true)) else
    bif (decide (((n : Nat) : Int) ≤ i)) then (some ((AV.tup [(AV.agg [I 0, I 0, I 0, I 0, AV.nilsl]), I 2]), [], true)) else
    bif (decide (j < 0)) then (some ((AV.tup [(AV.agg [I 0, I 0, I 0, I 0, AV.nilsl]), I 2]), [], true)) else
    bif (decide (((n : Nat) : Int) ≤ j)) then (some ((AV.tup [(AV.agg [I 0, I 0, I 0, I 0, AV.nilsl]), I 2]), [], true)) else
    bif (decide (i = j)) then (some ((AV.tup [(AV.agg [I 0, I 0, I 0, I 0, AV.nilsl]), I 5]), [], true)) else
    bif (decide (((n : Nat) : Int) = 30)) then (some ((AV.tup [(AV.agg [I 0, I 0, I 0, I 0, AV.nilsl]), I 3]), [], true)) else
    chkn (decide ((n = 0) ∧ (Not ((q 0 0) = 0)))) <|
    chk (decide ((0 + n) ≤ 4294967296)) <|
    chk ((0 + n) == (0 + n)) <|
    chk (decide ((0 ≤ i) ∧ (i < (((0 + n) : Nat) : Int)))) <|
    chk (decide ((0 + (0 + n)) ≤ (0 + n))) <|
    chk ((0 + n) == (0 + n)) <|
    chk (decide ((0 + (Int.toNat i)) < (0 + n))) <|
    chk ((0 + n) == (0 + n)) <|
    chk (decide ((0 ≤ j) ∧ (j < (((0 + n) : Nat) : Int)))) <|
    chk (decide ((0 + (0 + n)) ≤ (0 + n))) <|
    chk ((0 + n) == (0 + n)) <|
    chk (decide ((0 + (Int.toNat j)) < (0 + n))) <|
    chk ((primeB p) && ((decide ((0 ≤ (W (p - 1))) ∧ ((W (p - 1)) ≤ 100))) && ((mod9 p (pA (q ((0 + (Int.toNat i)) - 0)))) && (mod9 p (pA (q ((0 + (Int.toNat j)) - 0))))))) <|
    chk ((0 + n) == (0 + n)) <|
    chk (decide ((0 ≤ i) ∧ (i < (((0 + n) : Nat) : Int)))) <|
    chk (decide ((0 + (0 + n)) ≤ (0 + n))) <|
    chk ((0 + n) == (0 + n)) <|
    chk (decide ((0 + (Int.toNat i)) < (0 + n))) <|
    chk ((primeB p) && (true && ((mod9 p (pC (q ((0 + (Int.toNat i)) - 0)))) && (mod9 p (pC (q ((0 + (Int.toNat j)) - 0))))))) <|
    chk ((0 + n) == (0 + n)) <|
    chk (decide ((0 ≤ j) ∧ (j < (((0 + n) : Nat) : Int)))) <|
    chk (decide ((0 + (0 + n)) ≤ (0 + n))) <|
    chk ((0 + n) == (0 + n)) <|
    chk (decide ((0 + (Int.toNat j)) < (0 + n))) <|
    chk ((primeB p) && ((decide ((0 ≤ (W (p - 1))) ∧ ((W (p - 1)) ≤ 100))) && ((mod9 p (pB (q ((0 + (Int.toNat j)) - 0)))) && (mod9 p (pB (q ((0 + (Int.toNat i)) - 0))))))) <|
    chk ((0 + n) == (0 + n)) <|
    chk (decide (((0 + n) + 1) ≤ 4294967296)) <|
    chk (decide ((0 + n) = (0 + n))) <|
    chk ((decide (((0 + n) + 1) = ((0 + n) + 1))) && ((decide (((0 + n) + 1) = ((0 + n) + 1))) && (true && (true && (true && (decide (((0 + n) + 1) ≤ 60))))))) <|
    some ((AV.tup [(AV.agg [I p, I r, I k, I c, (AV.sl 0 0 (List.length (nzL ((0 + n) + 1) (canonI ((0 + n) + 1) 27 (fun a c1 => (bif (decide (a < (0 + n))) then (bif (a == (0 + (Int.toNat j))) then (prodQ (q ((0 + (Int.toNat j)) - 0)) (pB (q ((0 + (Int.toNat i)) - 0))) (sumQ p 1 (pC (q ((0 + (Int.toNat i)) - 0))) (pC (q ((0 + (Int.toNat j)) - 0)))) c1) else (bif (a == (0 + (Int.toNat i))) then (prodQ (sumQ p (W (p - 1)) (pA (q ((0 + (Int.toNat i)) - 0))) (pA (q ((0 + (Int.toNat j)) - 0)))) (pB (q ((0 + (Int.toNat i)) - 0))) (pC (q ((0 + (Int.toNat i)) - 0))) c1) else (q (a - 0) c1))) else (prodQ (q ((0 + (Int.toNat j)) - 0)) (sumQ p (W (p - 1)) (pB (q ((0 + (Int.toNat j)) - 0))) (pB (q ((0 + (Int.toNat i)) - 0)))) (pC (q ((0 + (Int.toNat j)) - 0))) c1)))))) ((0 + n) + 1))]), I 0]), [(KB.mk 64 27 (KR.ints .u8 27 ((0 + n) + 1) (roomQ (List.length (nzL ((0 + n) + 1) (canonI ((0 + n) + 1) 27 (fun a c1 => (bif (decide (a < (0 + n))) then (bif (a == (0 + (Int.toNat j))) then (prodQ (q ((0 + (Int.toNat j)) - 0)) (pB (q ((0 + (Int.toNat i)) - 0))) (sumQ p 1 (pC (q ((0 + (Int.toNat i)) - 0))) (pC (q ((0 + (Int.toNat j)) - 0)))) c1) else (bif (a == (0 + (Int.toNat i))) then (prodQ (sumQ p (W (p - 1)) (pA (q ((0 + (Int.toNat i)) - 0))) (pA (q ((0 + (Int.toNat j)) - 0)))) (pB (q ((0 + (Int.toNat i)) - 0))) (pC (q ((0 + (Int.toNat i)) - 0))) c1) else (q (a - 0) c1))) else (prodQ (q ((0 + (Int.toNat j)) - 0)) (sumQ p (W (p - 1)) (pB (q ((0 + (Int.toNat j)) - 0))) (pB (q ((0 + (Int.toNat i)) - 0)))) (pC (q ((0 + (Int.toNat j)) - 0))) c1)))))) (keptQ ((0 + n) + 1) (canonI ((0 + n) + 1) 27 (fun a c1 => (bif (decide (a < (0 + n))) then (bif (a == (0 + (Int.toNat j))) then (prodQ (q ((0 + (Int.toNat j)) - 0)) (pB (q ((0 + (Int.toNat i)) - 0))) (sumQ p 1 (pC (q ((0 + (Int.toNat i)) - 0))) (pC (q ((0 + (Int.toNat j)) - 0)))) c1) else (bif (a == (0 + (Int.toNat i))) then (prodQ (sumQ p (W (p - 1)) (pA (q ((0 + (Int.toNat i)) - 0))) (pA (q ((0 + (Int.toNat j)) - 0)))) (pB (q ((0 + (Int.toNat i)) - 0))) (pC (q ((0 + (Int.toNat i)) - 0))) c1) else (q (a - 0) c1))) else (prodQ (q ((0 + (Int.toNat j)) - 0)) (sumQ p (W (p - 1)) (pB (q ((0 + (Int.toNat j)) - 0))) (pB (q ((0 + (Int.toNat i)) - 0)))) (pC (q ((0 + (Int.toNat j)) - 0))) c1))))))))], true)) := by kernel_rfl

end Go.Proofs.Ytpjhlkidebcllaa.Fn
