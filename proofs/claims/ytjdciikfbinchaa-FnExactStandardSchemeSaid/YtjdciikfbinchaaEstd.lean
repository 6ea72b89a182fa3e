/- Equations of the abstract machine for some functions and their loops, printed by a program. -/
import Derived.Test.YtjdciikfbinchaaDa
import Derived.Test.YtjdciikfbinchaaDstd
namespace Go.Proofs.Ytjdciikfbinchaa.Fn
open Go Go.Proofs.Ytjdciikfbinchaa.Abs
set_option maxRecDepth 100000
set_option linter.unusedVariables false
theorem sspecStandardScheme (p : Int) (n : Int) (m : Int) (k : Int) (N : Nat) : fnK Try.prog (kc (tabOf [e_l01Sizes, e_l01Standard])) 40 (rnd [] 40 N) 17 [I p, I n, I m, I k]  done =
    (bif (!(sizesB p n m k)) then (some ((AV.tup [(AV.agg [I 0, I 0, I 0, I 0, AV.nilsl]), I 2]), [], true)) else
    chk ((sizeB n) && ((sizeB m) && (sizeB k))) <|
    some ((AV.tup [(AV.agg [I p, I n, I m, I k, (AV.sl 0 0 (((Int.toNat n) * (Int.toNat m)) * (Int.toNat k)) (((Int.toNat n) * (Int.toNat m)) * (Int.toNat k)))]), I 0]), [(KB.mk 63 27 (KR.ints .u8 27 (((Int.toNat n) * (Int.toNat m)) * (Int.toNat k)) (stdQ (Int.toNat n) (Int.toNat m) (Int.toNat k))))], true)) := by kernel_rfl

theorem simplStandardScheme (p : Int) (n : Int) (m : Int) (k : Int) (N : Nat) : fnK Try.prog (kc (tabOf [e_isPrime, e_isSize, e_standard])) 40 (rnd [] 40 N) 18 [I p, I n, I m, I k]  done =
    (bif (!(primeB p)) then (some ((AV.tup [(AV.agg [I 0, I 0, I 0, I 0, AV.nilsl]), I 2]), [], true)) else
    bif (!((sizeB n) && ((sizeB m) && (sizeB k)))) then (some ((AV.tup [(AV.agg [I 0, I 0, I 0, I 0, AV.nilsl]), I 2]), [], true)) else
    chk ((sizeB n) && ((sizeB m) && (sizeB k))) <|
    some ((AV.tup [(AV.agg [I p, I n, I m, I k, (AV.sl 0 0 (((Int.toNat n) * (Int.toNat m)) * (Int.toNat k)) (((Int.toNat n) * (Int.toNat m)) * (Int.toNat k)))]), I 0]), [(KB.mk 63 27 (KR.ints .u8 27 (((Int.toNat n) * (Int.toNat m)) * (Int.toNat k)) (stdQ (Int.toNat n) (Int.toNat m) (Int.toNat k))))], true)) := by kernel_rfl

end Go.Proofs.Ytjdciikfbinchaa.Fn
