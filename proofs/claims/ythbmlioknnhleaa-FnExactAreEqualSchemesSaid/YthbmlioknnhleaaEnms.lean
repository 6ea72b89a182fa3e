/- Equations of the abstract machine for some functions and their loops, printed by a program. -/
import Derived.Test.YthbmlioknnhleaaDa
import Derived.Test.YthbmlioknnhleaaDk
import Derived.Test.YthbmlioknnhleaaDlin
import Derived.Test.YthbmlioknnhleaaDlin2
import Derived.Test.YthbmlioknnhleaaDnmb
namespace Go.Proofs.Ythbmlioknnhleaa.Fn
open Go Go.Proofs.Ythbmlioknnhleaa.Abs
set_option maxRecDepth 100000
set_option linter.unusedVariables false
def Snormals_3 (p : Int) (r : Int) (k : Int) (c : Int) (n : Nat) (q : Nat → Nat → Int) (n3 : Nat) (x10 : Int) (qh0 : Nat → Nat → Int) : KS := ⟨[(1, (AV.lptr 1 0)), (2, (AV.lptr 2 0)), (3, (AV.sl 0 0 n3 n3)), (8, (AV.vi .u8 27 n q)), (9, I ((n : Nat) : Int)), (10, I x10)], [(1, [I p, I r, I k, I c, (AV.vi .u8 27 n q)]), (2, [I 0, I 0, I 0, I 0, AV.nilsl])], [(KB.mk 63 27 (KR.ints .u8 27 n3 qh0))], 0, true⟩
noncomputable def Lnormals_3 (p : Int) (r : Int) (k : Int) (c : Int) (n : Nat) (q : Nat → Nat → Int) (N : Nat) (m : Nat) (n3 : Nat) (x10 : Int) (qh0 : Nat → Nat → Int) : R := loopAtH Try.prog (kc (tabOf [e_normal])) 40 (rnd [] 40 N) 65 [] [true, true, false, true, false] [] m (Snormals_3 p r k c n q n3 x10 qh0) done
theorem snormals (p : Int) (r : Int) (k : Int) (c : Int) (n : Nat) (q : Nat → Nat → Int) (N : Nat) : fnK Try.prog (kc (tabOf [e_normal])) 40 (rnd [] 40 N) 65 [.agg [I p, I r, I k, I c, .vi .u8 27 n q]]  done =
    (Lnormals_3 p r k c n q N N 0 0 (nthR [])) := by kernel_rfl
theorem rnormals_3 (p : Int) (r : Int) (k : Int) (c : Int) (n : Nat) (q : Nat → Nat → Int) (N : Nat) (m : Nat) (n3 : Nat) (x10 : Int) (qh0 : Nat → Nat → Int) : Lnormals_3 p r k c n q N  (m + 1) n3 x10 qh0 =
    (bif (decide (x10 < ((n : Nat) : Int))) then (chk (decide ((0 ≤ x10) ∧ (x10 < ((n : Nat) : Int)))) <|
      chk (okN p (nthI (intsFrom (q (Int.toNat x10)) 0 27))) <|
      chk (n3 == n3) <|
      chk (decide ((n3 + 1) ≤ 4294967296)) <|
      chk (decide (n3 = n3)) <|
      Lnormals_3 p r k c n q N m (n3 + 1) (W (x10 + 1)) (fun a c1 => (bif (decide (a < n3)) then (qh0 a c1) else (nthI (intsFrom (normF p (nthI (intsFrom (q (Int.toNat x10)) 0 27))) 0 27) c1)))) else
    some ((AV.agg [I p, I r, I k, I c, (AV.sl 0 0 n3 n3)]), [(KB.mk 63 27 (KR.ints .u8 27 n3 qh0))], true)) := by kernel_rfl

def Sl03AllNormal_3 (p : Int) (r : Int) (k : Int) (c : Int) (n : Nat) (q : Nat → Nat → Int) (x4 : Int) (ny3_4 : Nat) (qh0 : Nat → Nat → Int) : KS := ⟨[(1, (AV.lptr 1 0)), (2, (AV.lptr 2 0)), (3, (AV.lptr 3 0)), (4, I x4)], [(1, [I p, I r, I k, I c, (AV.vi .u8 27 n q)]), (2, [I 0, I 0, I 0, I 0, AV.nilsl]), (3, [I p, I r, I k, I c, (AV.sl 0 0 ny3_4 ny3_4)])], [(KB.mk 63 27 (KR.ints .u8 27 ny3_4 qh0))], 0, true⟩
noncomputable def Ll03AllNormal_3 (p : Int) (r : Int) (k : Int) (c : Int) (n : Nat) (q : Nat → Nat → Int) (N : Nat) (m : Nat) (x4 : Int) (ny3_4 : Nat) (qh0 : Nat → Nat → Int) : R := loopAtH Try.prog (kc (tabOf [e_l03Normal])) 40 (rnd [] 40 N) 72 [] [true, true, false, true, false] [] m (Sl03AllNormal_3 p r k c n q x4 ny3_4 qh0) done
theorem sl03AllNormal (p : Int) (r : Int) (k : Int) (c : Int) (n : Nat) (q : Nat → Nat → Int) (N : Nat) : fnK Try.prog (kc (tabOf [e_l03Normal])) 40 (rnd [] 40 N) 72 [.agg [I p, I r, I k, I c, .vi .u8 27 n q]]  done =
    (Ll03AllNormal_3 p r k c n q N N 0 0 (nthR [])) := by kernel_rfl
theorem rl03AllNormal_3 (p : Int) (r : Int) (k : Int) (c : Int) (n : Nat) (q : Nat → Nat → Int) (N : Nat) (m : Nat) (x4 : Int) (ny3_4 : Nat) (qh0 : Nat → Nat → Int) : Ll03AllNormal_3 p r k c n q N  (m + 1) x4 ny3_4 qh0 =
    (bif (decide (x4 < ((n : Nat) : Int))) then (chk (decide ((0 ≤ x4) ∧ (x4 < ((n : Nat) : Int)))) <|
      chk (okN p (nthI (intsFrom (q (Int.toNat x4)) 0 27))) <|
      chk (ny3_4 == ny3_4) <|
      chk (decide ((ny3_4 + 1) ≤ 4294967296)) <|
      chk (decide (ny3_4 = ny3_4)) <|
      Ll03AllNormal_3 p r k c n q N m (W (x4 + 1)) (ny3_4 + 1) (fun a c1 => (bif (decide (a < ny3_4)) then (qh0 a c1) else (nthI (intsFrom (normF p (nthI (intsFrom (q (Int.toNat x4)) 0 27))) 0 27) c1)))) else
    some ((AV.agg [I p, I r, I k, I c, (AV.sl 0 0 ny3_4 ny3_4)]), [(KB.mk 63 27 (KR.ints .u8 27 ny3_4 qh0))], true)) := by kernel_rfl

end Go.Proofs.Ythbmlioknnhleaa.Fn
