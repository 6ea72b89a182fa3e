/- Equations of the abstract machine for some functions and their loops, printed by a program. -/
import Derived.Test.YtjdciikfbinchaaDa
namespace Go.Proofs.Ytjdciikfbinchaa.Fn
open Go Go.Proofs.Ytjdciikfbinchaa.Abs
set_option maxRecDepth 100000
set_option linter.unusedVariables false
theorem sspecAddProduct (p : Int) (r : Int) (k : Int) (c : Int) (n : Nat) (q : Nat → Nat → Int) (y : Nat → Int) (N : Nat) : fnK Try.prog (kc (tabOf [e_l01Is, e_l01Product])) 40 (rnd [] 40 N) 46 [.agg [I p, I r, I k, I c, .vi .u8 27 n q], .agg (cellsI .u8 27 y)]  done =
    (bif (!(isB p r k c n q)) then (some ((AV.tup [(AV.agg [I 0, I 0, I 0, I 0, AV.nilsl]), I 1]), [], true)) else
    bif (!(prodB p (W (r * k)) (W (k * c)) (W (r * c)) (nthI (intsFrom y 0 27)))) then (some ((AV.tup [(AV.agg [I 0, I 0, I 0, I 0, AV.nilsl]), I 1]), [], true)) else
    bif (decide (((n : Nat) : Int) = 30)) then (some ((AV.tup [(AV.agg [I 0, I 0, I 0, I 0, AV.nilsl]), I 3]), [], true)) else
    chk (decide ((0 + n) ≤ 4294967296)) <|
    chk ((0 + n) == (0 + n)) <|
    chk (decide (((0 + n) + 1) ≤ 4294967296)) <|
    chk (decide ((0 + n) = (0 + n))) <|
    some ((AV.tup [(AV.agg [I p, I r, I k, I c, (AV.sl 0 0 ((0 + n) + 1) ((0 + n) + 1))]), I 0]), [(KB.mk 63 27 (KR.ints .u8 27 ((0 + n) + 1) (fun a c1 => (bif (decide (a < (0 + n))) then (q (a - 0) c1) else (nthI (intsFrom y 0 27) c1)))))], true)) := by kernel_rfl

theorem simplAddProduct (p : Int) (r : Int) (k : Int) (c : Int) (n : Nat) (q : Nat → Nat → Int) (y : Nat → Int) (N : Nat) : fnK Try.prog (kc (tabOf [e_IsScheme, e_isProduct])) 40 (rnd [] 40 N) 48 [.agg [I p, I r, I k, I c, .vi .u8 27 n q], .agg (cellsI .u8 27 y)]  done =
    (bif (!(isB p r k c n q)) then (some ((AV.tup [(AV.agg [I 0, I 0, I 0, I 0, AV.nilsl]), I 1]), [], true)) else
    bif (!(prodB p (W (r * k)) (W (k * c)) (W (r * c)) (nthI (intsFrom y 0 27)))) then (some ((AV.tup [(AV.agg [I 0, I 0, I 0, I 0, AV.nilsl]), I 1]), [], true)) else
    bif (decide (((n : Nat) : Int) = 30)) then (some ((AV.tup [(AV.agg [I 0, I 0, I 0, I 0, AV.nilsl]), I 3]), [], true)) else
    chkn (decide ((n = 0) ∧ (Not ((q 0 0) = 0)))) <|
    chk (decide ((0 + n) ≤ 4294967296)) <|
    chk ((0 + n) == (0 + n)) <|
    chk (decide (((0 + n) + 1) ≤ 4294967296)) <|
    chk (decide ((0 + n) = (0 + n))) <|
    some ((AV.tup [(AV.agg [I p, I r, I k, I c, (AV.sl 0 0 ((0 + n) + 1) ((0 + n) + 1))]), I 0]), [(KB.mk 63 27 (KR.ints .u8 27 ((0 + n) + 1) (fun a c1 => (bif (decide (a < (0 + n))) then (q (a - 0) c1) else (nthI (intsFrom y 0 27) c1)))))], true)) := by kernel_rfl

end Go.Proofs.Ytjdciikfbinchaa.Fn
