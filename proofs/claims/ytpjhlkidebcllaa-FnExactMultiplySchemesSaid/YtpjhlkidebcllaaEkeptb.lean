/- Equations of the abstract machine for some functions and their loops, printed by a program. -/
import Derived.Test.YtpjhlkidebcllaaDa
import Derived.Test.YtpjhlkidebcllaaDk
import Derived.Test.YtpjhlkidebcllaaDkept
namespace Go.Proofs.Ytpjhlkidebcllaa.Fn
open Go Go.Proofs.Ytpjhlkidebcllaa.Abs
set_option maxRecDepth 100000
set_option linter.unusedVariables false
theorem smarkSchemeC (p : Int) (r : Int) (k : Int) (c : Int) (n : Nat) (t : Nat) (q : Nat → Nat → Int) (s : Int) (N : Nat) : fnKH Try.prog (kc (tabOf []) (mtabOf [m_markProductC])) 40 (rnd [] 40 N) 21 [.agg [I p, I r, I k, I c, .sl 0 0 n t], I s] [KB.ofNB ⟨tProduct, 27, .u8, t, q⟩] done =
    (chk ((decide (n ≤ t)) && ((decide (t = t)) && (true && (true && (true && ((decide (t ≤ 1048576)) && ((decide (0 ≤ s)) && (decide (s ≤ 1099511627776))))))))) <|
    some (I (s + (27 * ((n : Nat) : Int))), [(KB.mk 64 27 (KR.ints .u8 27 t (fun a c1 => (bif (decide (a < n)) then (markQ s a c1) else (canonI t 27 q a c1)))))], true)) := by kernel_rfl

end Go.Proofs.Ytpjhlkidebcllaa.Fn
