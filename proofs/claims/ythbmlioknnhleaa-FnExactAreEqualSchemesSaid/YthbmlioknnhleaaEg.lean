/- Equations of the abstract machine for some functions and their loops, printed by a program. -/
import Derived.Test.YthbmlioknnhleaaDa
import Derived.Test.YthbmlioknnhleaaDg
namespace Go.Proofs.Ythbmlioknnhleaa.Fn
open Go Go.Proofs.Ythbmlioknnhleaa.Abs
set_option maxRecDepth 100000
set_option linter.unusedVariables false
theorem stoScheme (p : Int) (r : Int) (k : Int) (c : Int) (n : Nat) (q : Nat → Nat → Int) (N : Nat) : fnK Try.prog (kc (tabOf [e_toProductS])) 40 (rnd [] 40 N) 25 [.agg [I p, I r, I k, I c, .vi .u8 27 n q]]  done =
    (chk (decide (n ≤ 1048576)) <|
    some ((AV.agg [I p, I r, I k, I c, (AV.sl 0 0 n n)]), [(KB.mk 63 27 (KR.ints .u8 27 n q))], true)) := by kernel_rfl

theorem seqScheme (p : Int) (r : Int) (k : Int) (c : Int) (n : Nat) (q : Nat → Nat → Int) (p' : Int) (r' : Int) (k' : Int) (c' : Int) (n' : Nat) (q' : Nat → Nat → Int) (N : Nat) : fnK Try.prog (kc (tabOf [e_eqProductS])) 40 (rnd [] 40 N) 27 [.agg [I p, I r, I k, I c, .vi .u8 27 n q], .agg [I p', I r', I k', I c', .vi .u8 27 n' q']]  done =
    (bif (!(decide (p = p'))) then (some ((AV.bool false), [], true)) else
    bif (!(decide (r = r'))) then (some ((AV.bool false), [], true)) else
    bif (!(decide (k = k'))) then (some ((AV.bool false), [], true)) else
    bif (!(decide (c = c'))) then (some ((AV.bool false), [], true)) else
    chk (decide (n ≤ 1048576)) <|
    bif (!(eqPs n q n' q')) then (some ((AV.bool false), [], true)) else
    some ((AV.bool true), [], true)) := by kernel_rfl

theorem sheldScheme (p : Int) (r : Int) (k : Int) (c : Int) (n : Nat) (q : Nat → Nat → Int) (s : Int) (N : Nat) : fnK Try.prog (kc (tabOf [e_heldProductS])) 40 (rnd [] 40 N) 31 [.agg [I p, I r, I k, I c, .vi .u8 27 n q], I s]  done =
    (chk ((decide (n ≤ 1048576)) && ((decide (0 ≤ s)) && (decide (s ≤ 1099511627776)))) <|
    bif (decide ((bif (heldB s n q) then (s + (27 * ((n : Nat) : Int))) else (-1)) < 0)) then (some (I (-1), [], true)) else
    some (I (bif (heldB s n q) then (s + (27 * ((n : Nat) : Int))) else (-1)), [], true)) := by kernel_rfl

theorem smarkScheme (p : Int) (r : Int) (k : Int) (c : Int) (n : Nat) (q : Nat → Nat → Int) (s : Int) (N : Nat) : fnKH Try.prog (kc (tabOf []) (mtabOf [m_markProductS])) 40 (rnd [] 40 N) 28 [.agg [I p, I r, I k, I c, .sl 0 0 n n], I s] [KB.ofNB ⟨tProduct, 27, .u8, n, q⟩] done =
    (chk ((decide (n = n)) && ((decide (n = n)) && (true && (true && (true && ((decide (n ≤ 1048576)) && ((decide (0 ≤ s)) && (decide (s ≤ 1099511627776))))))))) <|
    some (I (s + (27 * ((n : Nat) : Int))), [(KB.mk 63 27 (KR.ints .u8 27 n (markQ s)))], true)) := by kernel_rfl

end Go.Proofs.Ythbmlioknnhleaa.Fn
