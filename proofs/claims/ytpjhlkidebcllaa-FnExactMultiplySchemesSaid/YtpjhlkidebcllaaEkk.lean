/- Equations of the abstract machine for some functions and their loops, printed by a program. -/
import Derived.Test.YtpjhlkidebcllaaDa
import Derived.Test.YtpjhlkidebcllaaDk
import Derived.Test.YtpjhlkidebcllaaDkept
namespace Go.Proofs.Ytpjhlkidebcllaa.Fn
open Go Go.Proofs.Ytpjhlkidebcllaa.Abs
set_option maxRecDepth 100000
set_option linter.unusedVariables false
theorem skept (n : Nat) (q : Nat → Nat → Int) (N : Nat) : fnKH Try.prog (kc (tabOf []) (mtabOf [m_delFunc])) 40 (rnd [] 40 N) 79 [.sl 0 0 n n] [KB.ofNB ⟨tProduct, 27, .u8, n, q⟩] done =
    (chk ((decide (n = n)) && ((decide (n = n)) && (true && (true && (true && (decide (n ≤ 60))))))) <|
    some ((AV.sl 0 0 (List.length (nzL n (canonI n 27 q))) n), [(KB.mk 64 27 (KR.ints .u8 27 n (roomQ (List.length (nzL n (canonI n 27 q))) (keptQ n (canonI n 27 q)))))], true)) := by kernel_rfl

end Go.Proofs.Ytpjhlkidebcllaa.Fn
