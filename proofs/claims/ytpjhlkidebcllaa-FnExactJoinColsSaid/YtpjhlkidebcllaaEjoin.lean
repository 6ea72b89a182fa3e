/- Equations of the abstract machine for some functions and their loops, printed by a program. -/
import Derived.Test.YtpjhlkidebcllaaDa
import Derived.Test.YtpjhlkidebcllaaDk
import Derived.Test.YtpjhlkidebcllaaDjoin
namespace Go.Proofs.Ytpjhlkidebcllaa.Fn
open Go Go.Proofs.Ytpjhlkidebcllaa.Abs
set_option maxRecDepth 100000
set_option linter.unusedVariables false
theorem simplJoinRows (p : Int) (r : Int) (k : Int) (c : Int) (n : Nat) (q : Nat → Nat → Int) (p' : Int) (r' : Int) (k' : Int) (c' : Int) (n' : Nat) (q' : Nat → Nat → Int) (N : Nat) : fnK Try.prog (kc (tabOf [e_IsScheme, e_framed])) 40 (rnd [2, 5] 5 N) 38 [.agg [I p, I r, I k, I c, .vi .u8 27 n q], .agg [I p', I r', I k', I c', .vi .u8 27 n' q']]  done =
    (bif (!(isB p r k c n q)) then (some ((AV.tup [(AV.agg [I 0, I 0, I 0, I 0, AV.nilsl]), I 1]), [], true)) else
    bif (!(isB p' r' k' c' n' q')) then (some ((AV.tup [(AV.agg [I 0, I 0, I 0, I 0, AV.nilsl]), I 1]), [], true)) else
    bif (!(decide (k = k'))) then (some ((AV.tup [(AV.agg [I 0, I 0, I 0, I 0, AV.nilsl]), I 2]), [], true)) else
    bif (!(decide (c = c'))) then (some ((AV.tup [(AV.agg [I 0, I 0, I 0, I 0, AV.nilsl]), I 2]), [], true)) else
    bif (!(decide (p = p'))) then (some ((AV.tup [(AV.agg [I 0, I 0, I 0, I 0, AV.nilsl]), I 2]), [], true)) else
    bif (decide (3 < (W (r + r')))) then (some ((AV.tup [(AV.agg [I 0, I 0, I 0, I 0, AV.nilsl]), I 3]), [], true)) else
    bif (decide (30 < (W (((n : Nat) : Int) + ((n' : Nat) : Int))))) then (some ((AV.tup [(AV.agg [I 0, I 0, I 0, I 0, AV.nilsl]), I 3]), [], true)) else
    chk ((decide (n ≤ 30)) && (frmB r k c k c 0 0 0)) <|
    chk ((decide (n' ≤ 30)) && (frmB r' k' c' k c r 0 0)) <|
    chk (n' == n') <|
    chk (decide ((0 + n') ≤ n')) <|
    chk (n == n) <|
    chk (decide ((n + n') ≤ 4294967296)) <|
    chk (decide (n = n)) <|
    some ((AV.tup [(AV.agg [I p, I (W (r + r')), I k, I c, (AV.sl 0 0 (n + n') (n + n'))]), I 0]), [(KB.mk 64 27 (KR.ints .u8 27 (n + n') (fun a c1 => (bif (decide (a < n)) then (frmF r k c k c 0 0 0 (q a) c1) else (frmF r' k' c' k c r 0 0 (q' (a - n)) c1)))))], true)) := by kernel_rfl

theorem sspecJoinRows (p : Int) (r : Int) (k : Int) (c : Int) (n : Nat) (q : Nat → Nat → Int) (p' : Int) (r' : Int) (k' : Int) (c' : Int) (n' : Nat) (q' : Nat → Nat → Int) (N : Nat) : fnK Try.prog (kc (tabOf [e_l01Is]) (mtabOf [m_l02Put])) 40 (rnd [] 40 N) 37 [.agg [I p, I r, I k, I c, .vi .u8 27 n q], .agg [I p', I r', I k', I c', .vi .u8 27 n' q']]  done =
    (bif (!(isB p r k c n q)) then (some ((AV.tup [(AV.agg [I 0, I 0, I 0, I 0, AV.nilsl]), I 1]), [], true)) else
    bif (!(isB p' r' k' c' n' q')) then (some ((AV.tup [(AV.agg [I 0, I 0, I 0, I 0, AV.nilsl]), I 1]), [], true)) else
    bif (!(decide (p = p'))) then (some ((AV.tup [(AV.agg [I 0, I 0, I 0, I 0, AV.nilsl]), I 2]), [], true)) else
    bif (!(decide (k = k'))) then (some ((AV.tup [(AV.agg [I 0, I 0, I 0, I 0, AV.nilsl]), I 2]), [], true)) else
    bif (!(decide (c = c'))) then (some ((AV.tup [(AV.agg [I 0, I 0, I 0, I 0, AV.nilsl]), I 2]), [], true)) else
    bif (decide (3 < (W (r + r')))) then (some ((AV.tup [(AV.agg [I 0, I 0, I 0, I 0, AV.nilsl]), I 3]), [], true)) else
    bif (decide (30 < (W (((n : Nat) : Int) + ((n' : Nat) : Int))))) then (some ((AV.tup [(AV.agg [I 0, I 0, I 0, I 0, AV.nilsl]), I 3]), [], true)) else
    chk (true && (true && (true && (true && (true && (true && ((decide (n ≤ 30)) && (frmB r k c k c 0 0 0)))))))) <|
    chk ((decide ((0 + n) = (0 + n))) && ((decide ((0 + n) = (0 + n))) && (true && (true && (true && ((decide ((0 + n) ≤ 30)) && ((decide (n' ≤ 30)) && (frmB r' k' c' k c r 0 0)))))))) <|
    some ((AV.tup [(AV.agg [I p, I (W (r + r')), I k, I c, (AV.sl 0 0 ((0 + n) + n') ((0 + n) + n'))]), I 0]), [(KB.mk 64 27 (KR.ints .u8 27 ((0 + n) + n') (putQ (0 + n) (canonI (0 + n) 27 (putQ 0 (canonI 0 27 (nthR [])) r k c k c 0 0 0 q)) r' k' c' k c r 0 0 q')))], true)) := by kernel_rfl

theorem simplJoinInner (p : Int) (r : Int) (k : Int) (c : Int) (n : Nat) (q : Nat → Nat → Int) (p' : Int) (r' : Int) (k' : Int) (c' : Int) (n' : Nat) (q' : Nat → Nat → Int) (N : Nat) : fnK Try.prog (kc (tabOf [e_IsScheme, e_framed])) 40 (rnd [2, 5] 5 N) 36 [.agg [I p, I r, I k, I c, .vi .u8 27 n q], .agg [I p', I r', I k', I c', .vi .u8 27 n' q']]  done =
    (bif (!(isB p r k c n q)) then (some ((AV.tup [(AV.agg [I 0, I 0, I 0, I 0, AV.nilsl]), I 1]), [], true)) else
    bif (!(isB p' r' k' c' n' q')) then (some ((AV.tup [(AV.agg [I 0, I 0, I 0, I 0, AV.nilsl]), I 1]), [], true)) else
    bif (!(decide (r = r'))) then (some ((AV.tup [(AV.agg [I 0, I 0, I 0, I 0, AV.nilsl]), I 2]), [], true)) else
    bif (!(decide (c = c'))) then (some ((AV.tup [(AV.agg [I 0, I 0, I 0, I 0, AV.nilsl]), I 2]), [], true)) else
    bif (!(decide (p = p'))) then (some ((AV.tup [(AV.agg [I 0, I 0, I 0, I 0, AV.nilsl]), I 2]), [], true)) else
    bif (decide (3 < (W (k + k')))) then (some ((AV.tup [(AV.agg [I 0, I 0, I 0, I 0, AV.nilsl]), I 3]), [], true)) else
    bif (decide (30 < (W (((n : Nat) : Int) + ((n' : Nat) : Int))))) then (some ((AV.tup [(AV.agg [I 0, I 0, I 0, I 0, AV.nilsl]), I 3]), [], true)) else
    chk ((decide (n ≤ 30)) && (frmB r k c (W (k + k')) c 0 0 0)) <|
    chk ((decide (n' ≤ 30)) && (frmB r' k' c' (W (k + k')) c 0 k 0)) <|
    chk (n' == n') <|
    chk (decide ((0 + n') ≤ n')) <|
    chk (n == n) <|
    chk (decide ((n + n') ≤ 4294967296)) <|
    chk (decide (n = n)) <|
    some ((AV.tup [(AV.agg [I p, I r, I (W (k + k')), I c, (AV.sl 0 0 (n + n') (n + n'))]), I 0]), [(KB.mk 64 27 (KR.ints .u8 27 (n + n') (fun a c1 => (bif (decide (a < n)) then (frmF r k c (W (k + k')) c 0 0 0 (q a) c1) else (frmF r' k' c' (W (k + k')) c 0 k 0 (q' (a - n)) c1)))))], true)) := by kernel_rfl

theorem sspecJoinInner (p : Int) (r : Int) (k : Int) (c : Int) (n : Nat) (q : Nat → Nat → Int) (p' : Int) (r' : Int) (k' : Int) (c' : Int) (n' : Nat) (q' : Nat → Nat → Int) (N : Nat) : fnK Try.prog (kc (tabOf [e_l01Is]) (mtabOf [m_l02Put])) 40 (rnd [] 40 N) 35 [.agg [I p, I r, I k, I c, .vi .u8 27 n q], .agg [I p', I r', I k', I c', .vi .u8 27 n' q']]  done =
    (bif (!(isB p r k c n q)) then (some ((AV.tup [(AV.agg [I 0, I 0, I 0, I 0, AV.nilsl]), I 1]), [], true)) else
    bif (!(isB p' r' k' c' n' q')) then (some ((AV.tup [(AV.agg [I 0, I 0, I 0, I 0, AV.nilsl]), I 1]), [], true)) else
    bif (!(decide (p = p'))) then (some ((AV.tup [(AV.agg [I 0, I 0, I 0, I 0, AV.nilsl]), I 2]), [], true)) else
    bif (!(decide (r = r'))) then (some ((AV.tup [(AV.agg [I 0, I 0, I 0, I 0, AV.nilsl]), I 2]), [], true)) else
    bif (!(decide (c = c'))) then (some ((AV.tup [(AV.agg [I 0, I 0, I 0, I 0, AV.nilsl]), I 2]), [], true)) else
    bif (decide (3 < (W (k + k')))) then (some ((AV.tup [(AV.agg [I 0, I 0, I 0, I 0, AV.nilsl]), I 3]), [], true)) else
    bif (decide (30 < (W (((n : Nat) : Int) + ((n' : Nat) : Int))))) then (some ((AV.tup [(AV.agg [I 0, I 0, I 0, I 0, AV.nilsl]), I 3]), [], true)) else
    chk (true && (true && (true && (true && (true && (true && ((decide (n ≤ 30)) && (frmB r k c (W (k + k')) c 0 0 0)))))))) <|
    chk ((decide ((0 + n) = (0 + n))) && ((decide ((0 + n) = (0 + n))) && (true && (true && (true && ((decide ((0 + n) ≤ 30)) && ((decide (n' ≤ 30)) && (frmB r' k' c' (W (k + k')) c 0 k 0)))))))) <|
    some ((AV.tup [(AV.agg [I p, I r, I (W (k + k')), I c, (AV.sl 0 0 ((0 + n) + n') ((0 + n) + n'))]), I 0]), [(KB.mk 64 27 (KR.ints .u8 27 ((0 + n) + n') (putQ (0 + n) (canonI (0 + n) 27 (putQ 0 (canonI 0 27 (nthR [])) r k c (W (k + k')) c 0 0 0 q)) r' k' c' (W (k + k')) c 0 k 0 q')))], true)) := by kernel_rfl

theorem simplJoinCols (p : Int) (r : Int) (k : Int) (c : Int) (n : Nat) (q : Nat → Nat → Int) (p' : Int) (r' : Int) (k' : Int) (c' : Int) (n' : Nat) (q' : Nat → Nat → Int) (N : Nat) : fnK Try.prog (kc (tabOf [e_IsScheme, e_framed])) 40 (rnd [2, 5] 5 N) 34 [.agg [I p, I r, I k, I c, .vi .u8 27 n q], .agg [I p', I r', I k', I c', .vi .u8 27 n' q']]  done =
    (bif (!(isB p r k c n q)) then (some ((AV.tup [(AV.agg [I 0, I 0, I 0, I 0, AV.nilsl]), I 1]), [], true)) else
    bif (!(isB p' r' k' c' n' q')) then (some ((AV.tup [(AV.agg [I 0, I 0, I 0, I 0, AV.nilsl]), I 1]), [], true)) else
    bif (!(decide (r = r'))) then (some ((AV.tup [(AV.agg [I 0, I 0, I 0, I 0, AV.nilsl]), I 2]), [], true)) else
    bif (!(decide (k = k'))) then (some ((AV.tup [(AV.agg [I 0, I 0, I 0, I 0, AV.nilsl]), I 2]), [], true)) else
    bif (!(decide (p = p'))) then (some ((AV.tup [(AV.agg [I 0, I 0, I 0, I 0, AV.nilsl]), I 2]), [], true)) else
    bif (decide (3 < (W (c + c')))) then (some ((AV.tup [(AV.agg [I 0, I 0, I 0, I 0, AV.nilsl]), I 3]), [], true)) else
    bif (decide (30 < (W (((n : Nat) : Int) + ((n' : Nat) : Int))))) then (some ((AV.tup [(AV.agg [I 0, I 0, I 0, I 0, AV.nilsl]), I 3]), [], true)) else
    chk ((decide (n ≤ 30)) && (frmB r k c k (W (c + c')) 0 0 0)) <|
    chk ((decide (n' ≤ 30)) && (frmB r' k' c' k (W (c + c')) 0 0 c)) <|
    chk (n' == n') <|
    chk (decide ((0 + n') ≤ n')) <|
    chk (n == n) <|
    chk (decide ((n + n') ≤ 4294967296)) <|
    chk (decide (n = n)) <|
    some ((AV.tup [(AV.agg [I p, I r, I k, I (W (c + c')), (AV.sl 0 0 (n + n') (n + n'))]), I 0]), [(KB.mk 64 27 (KR.ints .u8 27 (n + n') (fun a c1 => (bif (decide (a < n)) then (frmF r k c k (W (c + c')) 0 0 0 (q a) c1) else (frmF r' k' c' k (W (c + c')) 0 0 c (q' (a - n)) c1)))))], true)) := by kernel_rfl

theorem sspecJoinCols (p : Int) (r : Int) (k : Int) (c : Int) (n : Nat) (q : Nat → Nat → Int) (p' : Int) (r' : Int) (k' : Int) (c' : Int) (n' : Nat) (q' : Nat → Nat → Int) (N : Nat) : fnK Try.prog (kc (tabOf [e_l01Is]) (mtabOf [m_l02Put])) 40 (rnd [] 40 N) 33 [.agg [I p, I r, I k, I c, .vi .u8 27 n q], .agg [I p', I r', I k', I c', .vi .u8 27 n' q']]  done =
    (bif (!(isB p r k c n q)) then (some ((AV.tup [(AV.agg [I 0, I 0, I 0, I 0, AV.nilsl]), I 1]), [], true)) else
    bif (!(isB p' r' k' c' n' q')) then (some ((AV.tup [(AV.agg [I 0, I 0, I 0, I 0, AV.nilsl]), I 1]), [], true)) else
    bif (!(decide (p = p'))) then (some ((AV.tup [(AV.agg [I 0, I 0, I 0, I 0, AV.nilsl]), I 2]), [], true)) else
    bif (!(decide (r = r'))) then (some ((AV.tup [(AV.agg [I 0, I 0, I 0, I 0, AV.nilsl]), I 2]), [], true)) else
    bif (!(decide (k = k'))) then (some ((AV.tup [(AV.agg [I 0, I 0, I 0, I 0, AV.nilsl]), I 2]), [], true)) else
    bif (decide (3 < (W (c + c')))) then (some ((AV.tup [(AV.agg [I 0, I 0, I 0, I 0, AV.nilsl]), I 3]), [], true)) else
    bif (decide (30 < (W (((n : Nat) : Int) + ((n' : Nat) : Int))))) then (some ((AV.tup [(AV.agg [I 0, I 0, I 0, I 0, AV.nilsl]), I 3]), [], true)) else
    chk (true && (true && (true && (true && (true && (true && ((decide (n ≤ 30)) && (frmB r k c k (W (c + c')) 0 0 0)))))))) <|
    chk ((decide ((0 + n) = (0 + n))) && ((decide ((0 + n) = (0 + n))) && (true && (true && (true && ((decide ((0 + n) ≤ 30)) && ((decide (n' ≤ 30)) && (frmB r' k' c' k (W (c + c')) 0 0 c)))))))) <|
    some ((AV.tup [(AV.agg [I p, I r, I k, I (W (c + c')), (AV.sl 0 0 ((0 + n) + n') ((0 + n) + n'))]), I 0]), [(KB.mk 64 27 (KR.ints .u8 27 ((0 + n) + n') (putQ (0 + n) (canonI (0 + n) 27 (putQ 0 (canonI 0 27 (nthR [])) r k c k (W (c + c')) 0 0 0 q)) r' k' c' k (W (c + c')) 0 0 c q')))], true)) := by kernel_rfl

end Go.Proofs.Ytpjhlkidebcllaa.Fn
