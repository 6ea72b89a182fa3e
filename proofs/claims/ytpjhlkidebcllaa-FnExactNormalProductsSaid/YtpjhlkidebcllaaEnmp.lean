/- Equations of the abstract machine for some functions and their loops, printed by a program. -/
import Derived.Test.YtpjhlkidebcllaaDa
import Derived.Test.YtpjhlkidebcllaaDk
import Derived.Test.YtpjhlkidebcllaaDnms
namespace Go.Proofs.Ytpjhlkidebcllaa.Fn
open Go Go.Proofs.Ytpjhlkidebcllaa.Abs
set_option maxRecDepth 100000
set_option linter.unusedVariables false
theorem simplNormal (p : Int) (r : Int) (k : Int) (c : Int) (n : Nat) (q : Nat → Nat → Int) (N : Nat) : fnK Try.prog (kc (tabOf [e_IsScheme, e_normals])) 40 (rnd [] 40 N) 28 [.agg [I p, I r, I k, I c, .vi .u8 27 n q]]  done =
    (bif (!(isB p r k c n q)) then (some ((AV.tup [(AV.agg [I 0, I 0, I 0, I 0, AV.nilsl]), I 1]), [], true)) else
    chk (okNs p n q) <|
    some ((AV.tup [(AV.agg [I p, I r, I k, I c, (AV.sl 0 0 n n)]), I 0]), [(KB.mk 64 27 (KR.ints .u8 27 n (fun i => (normF p (q i)))))], true)) := by kernel_rfl

theorem sspecNormal (p : Int) (r : Int) (k : Int) (c : Int) (n : Nat) (q : Nat → Nat → Int) (N : Nat) : fnK Try.prog (kc (tabOf [e_l01Is, e_l03AllNormal])) 40 (rnd [] 40 N) 27 [.agg [I p, I r, I k, I c, .vi .u8 27 n q]]  done =
    (bif (!(isB p r k c n q)) then (some ((AV.tup [(AV.agg [I 0, I 0, I 0, I 0, AV.nilsl]), I 1]), [], true)) else
    chk (okNs p n q) <|
    some ((AV.tup [(AV.agg [I p, I r, I k, I c, (AV.sl 0 0 n n)]), I 0]), [(KB.mk 64 27 (KR.ints .u8 27 n (fun i => (normF p (q i)))))], true)) := by kernel_rfl

end Go.Proofs.Ytpjhlkidebcllaa.Fn
