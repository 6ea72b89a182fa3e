/- Equations of the abstract machine for some functions and their loops, printed by a program. -/
import Derived.Test.YtpjhlkidebcllaaDa
import Derived.Test.YtpjhlkidebcllaaDk
import Derived.Test.YtpjhlkidebcllaaDturn
namespace Go.Proofs.Ytpjhlkidebcllaa.Fn
open Go Go.Proofs.Ytpjhlkidebcllaa.Abs
set_option maxRecDepth 100000
set_option linter.unusedVariables false
def SspecTurn_5 (p : Int) (r : Int) (k : Int) (c : Int) (n : Nat) (q : Nat → Nat → Int) (x5 : Int) (ny4_4 : Nat) (qh0 : Nat → Nat → Int) : KS := ⟨[(1, (AV.lptr 1 0)), (2, (AV.lptr 2 0)), (4, (AV.lptr 4 0)), (5, I x5)], [(1, [I p, I r, I k, I c, (AV.vi .u8 27 n q)]), (2, [I 0, I 0, I 0, I 0, AV.nilsl]), (4, [I p, I k, I c, I r, (AV.sl 0 0 ny4_4 ny4_4)])], [(KB.mk 64 27 (KR.ints .u8 27 ny4_4 qh0))], 0, true⟩
noncomputable def LspecTurn_5 (p : Int) (r : Int) (k : Int) (c : Int) (n : Nat) (q : Nat → Nat → Int) (N : Nat) (m : Nat) (x5 : Int) (ny4_4 : Nat) (qh0 : Nat → Nat → Int) : R := loopAtH Try.prog (kc (tabOf [e_l01Is, e_l04Transposed])) 40 (rnd [] 40 N) 29 [] [true, true, true, false, true, false] [] m (SspecTurn_5 p r k c n q x5 ny4_4 qh0) done
theorem sspecTurn (p : Int) (r : Int) (k : Int) (c : Int) (n : Nat) (q : Nat → Nat → Int) (N : Nat) : fnK Try.prog (kc (tabOf [e_l01Is, e_l04Transposed])) 40 (rnd [] 40 N) 29 [.agg [I p, I r, I k, I c, .vi .u8 27 n q]]  done =
    (bif (!(isB p r k c n q)) then (some ((AV.tup [(AV.agg [I 0, I 0, I 0, I 0, AV.nilsl]), I 1]), [], true)) else
    LspecTurn_5 p r k c n q N N 0 0 (nthR [])) := by kernel_rfl
theorem rspecTurn_5 (p : Int) (r : Int) (k : Int) (c : Int) (n : Nat) (q : Nat → Nat → Int) (N : Nat) (m : Nat) (x5 : Int) (ny4_4 : Nat) (qh0 : Nat → Nat → Int) : LspecTurn_5 p r k c n q N  (m + 1) x5 ny4_4 qh0 =
    (bif (decide (x5 < ((n : Nat) : Int))) then (chk (decide ((0 ≤ x5) ∧ (x5 < ((n : Nat) : Int)))) <|
      chk ((decide ((1 ≤ r) ∧ (r ≤ 3))) && ((decide ((1 ≤ c) ∧ (c ≤ 3))) && (rng9 (pC (q (Int.toNat x5)))))) <|
      chk ((decide ((1 ≤ r) ∧ (r ≤ 3))) && ((decide ((1 ≤ k) ∧ (k ≤ 3))) && (rng9 (pA (q (Int.toNat x5)))))) <|
      chk (ny4_4 == ny4_4) <|
      chk (decide ((ny4_4 + 1) ≤ 4294967296)) <|
      chk (decide (ny4_4 = ny4_4)) <|
      LspecTurn_5 p r k c n q N m (W (x5 + 1)) (ny4_4 + 1) (fun a c1 => (bif (decide (a < ny4_4)) then (qh0 a c1) else (prodQ (pB (q (Int.toNat x5))) (transQ (Int.toNat r) (Int.toNat c) (pC (q (Int.toNat x5)))) (transQ (Int.toNat r) (Int.toNat k) (pA (q (Int.toNat x5)))) c1)))) else
    some ((AV.tup [(AV.agg [I p, I k, I c, I r, (AV.sl 0 0 ny4_4 ny4_4)]), I 0]), [(KB.mk 64 27 (KR.ints .u8 27 ny4_4 qh0))], true)) := by kernel_rfl

def SimplTurn_5 (p : Int) (r : Int) (k : Int) (c : Int) (n : Nat) (q : Nat → Nat → Int)  : KS := ⟨[(1, (AV.lptr 1 0)), (2, (AV.lptr 2 0)), (4, (AV.lptr 4 0)), (21, (AV.vi .u8 27 n q)), (22, I ((n : Nat) : Int)), (23, I 0)], [(1, [I p, I r, I k, I c, (AV.vi .u8 27 n q)]), (2, [I 0, I 0, I 0, I 0, AV.nilsl]), (4, [I p, I k, I c, I r, AV.nilsl])], [], 0, true⟩
noncomputable def LimplTurn_5 (p : Int) (r : Int) (k : Int) (c : Int) (n : Nat) (q : Nat → Nat → Int) (N : Nat) (m : Nat) : R := loopAtH Try.prog (kc (tabOf [e_IsScheme, e_turnedForm])) 40 (rnd [] 40 N) 30 [] [true, true, true, false, true, false] [] m (SimplTurn_5 p r k c n q ) done
def SimplTurn_5b (p : Int) (r : Int) (k : Int) (c : Int) (n : Nat) (q : Nat → Nat → Int) (x23 : Int) (ny4_4 : Nat) (qh0 : Nat → Nat → Int) : KS := ⟨[(1, (AV.lptr 1 0)), (2, (AV.lptr 2 0)), (4, (AV.lptr 4 0)), (21, (AV.vi .u8 27 n q)), (22, I ((n : Nat) : Int)), (23, I x23)], [(1, [I p, I r, I k, I c, (AV.vi .u8 27 n q)]), (2, [I 0, I 0, I 0, I 0, AV.nilsl]), (4, [I p, I k, I c, I r, (AV.sl 0 0 ny4_4 ny4_4)])], [(KB.mk 64 27 (KR.ints .u8 27 ny4_4 qh0))], 0, true⟩
noncomputable def LimplTurn_5b (p : Int) (r : Int) (k : Int) (c : Int) (n : Nat) (q : Nat → Nat → Int) (N : Nat) (m : Nat) (x23 : Int) (ny4_4 : Nat) (qh0 : Nat → Nat → Int) : R := loopAtH Try.prog (kc (tabOf [e_IsScheme, e_turnedForm])) 40 (rnd [] 40 N) 30 [] [true, true, true, false, true, false] [] m (SimplTurn_5b p r k c n q x23 ny4_4 qh0) done
theorem simplTurn (p : Int) (r : Int) (k : Int) (c : Int) (n : Nat) (q : Nat → Nat → Int) (N : Nat) : fnK Try.prog (kc (tabOf [e_IsScheme, e_turnedForm])) 40 (rnd [] 40 N) 30 [.agg [I p, I r, I k, I c, .vi .u8 27 n q]]  done =
    (bif (!(isB p r k c n q)) then (some ((AV.tup [(AV.agg [I 0, I 0, I 0, I 0, AV.nilsl]), I 1]), [], true)) else
    LimplTurn_5 p r k c n q N N) := by kernel_rfl
theorem rimplTurn_5 (p : Int) (r : Int) (k : Int) (c : Int) (n : Nat) (q : Nat → Nat → Int) (N : Nat) (m : Nat) : LimplTurn_5 p r k c n q N  (m + 1)  =
    (bif (decide (0 < ((n : Nat) : Int))) then (chk (decide (((0 : Int) ≤ 0) ∧ (0 < ((n : Nat) : Int)))) <|
      chk ((decide ((1 ≤ r) ∧ (r ≤ 3))) && ((decide ((1 ≤ c) ∧ (c ≤ 3))) && (rng9 (pC (q 0))))) <|
      chk ((decide ((1 ≤ r) ∧ (r ≤ 3))) && ((decide ((1 ≤ k) ∧ (k ≤ 3))) && (rng9 (pA (q 0))))) <|
      LimplTurn_5b p r k c n q N m 1 1 (fun _ => (prodQ (pB (q 0)) (transQ (Int.toNat r) (Int.toNat c) (pC (q 0))) (transQ (Int.toNat r) (Int.toNat k) (pA (q 0)))))) else
    some ((AV.tup [(AV.agg [I p, I k, I c, I r, AV.nilsl]), I 0]), [], true)) := by kernel_rfl
theorem rimplTurn_5b (p : Int) (r : Int) (k : Int) (c : Int) (n : Nat) (q : Nat → Nat → Int) (N : Nat) (m : Nat) (x23 : Int) (ny4_4 : Nat) (qh0 : Nat → Nat → Int) : LimplTurn_5b p r k c n q N  (m + 1) x23 ny4_4 qh0 =
    (bif (decide (x23 < ((n : Nat) : Int))) then (chk (decide ((0 ≤ x23) ∧ (x23 < ((n : Nat) : Int)))) <|
      chk ((decide ((1 ≤ r) ∧ (r ≤ 3))) && ((decide ((1 ≤ c) ∧ (c ≤ 3))) && (rng9 (pC (q (Int.toNat x23)))))) <|
      chk ((decide ((1 ≤ r) ∧ (r ≤ 3))) && ((decide ((1 ≤ k) ∧ (k ≤ 3))) && (rng9 (pA (q (Int.toNat x23)))))) <|
      chk (ny4_4 == ny4_4) <|
      chk (decide ((ny4_4 + 1) ≤ 4294967296)) <|
      chk (decide (ny4_4 = ny4_4)) <|
      LimplTurn_5b p r k c n q N m (W (x23 + 1)) (ny4_4 + 1) (fun a c1 => (bif (decide (a < ny4_4)) then (qh0 a c1) else (prodQ (pB (q (Int.toNat x23))) (transQ (Int.toNat r) (Int.toNat c) (pC (q (Int.toNat x23)))) (transQ (Int.toNat r) (Int.toNat k) (pA (q (Int.toNat x23)))) c1)))) else
    some ((AV.tup [(AV.agg [I p, I k, I c, I r, (AV.sl 0 0 ny4_4 ny4_4)]), I 0]), [(KB.mk 64 27 (KR.ints .u8 27 ny4_4 qh0))], true)) := by kernel_rfl

def SspecFlip_5 (p : Int) (r : Int) (k : Int) (c : Int) (n : Nat) (q : Nat → Nat → Int) (x5 : Int) (ny4_4 : Nat) (qh0 : Nat → Nat → Int) : KS := ⟨[(1, (AV.lptr 1 0)), (2, (AV.lptr 2 0)), (4, (AV.lptr 4 0)), (5, I x5)], [(1, [I p, I r, I k, I c, (AV.vi .u8 27 n q)]), (2, [I 0, I 0, I 0, I 0, AV.nilsl]), (4, [I p, I c, I k, I r, (AV.sl 0 0 ny4_4 ny4_4)])], [(KB.mk 64 27 (KR.ints .u8 27 ny4_4 qh0))], 0, true⟩
noncomputable def LspecFlip_5 (p : Int) (r : Int) (k : Int) (c : Int) (n : Nat) (q : Nat → Nat → Int) (N : Nat) (m : Nat) (x5 : Int) (ny4_4 : Nat) (qh0 : Nat → Nat → Int) : R := loopAtH Try.prog (kc (tabOf [e_l01Is, e_l04Transposed])) 40 (rnd [] 40 N) 31 [] [true, true, true, false, true, false] [] m (SspecFlip_5 p r k c n q x5 ny4_4 qh0) done
theorem sspecFlip (p : Int) (r : Int) (k : Int) (c : Int) (n : Nat) (q : Nat → Nat → Int) (N : Nat) : fnK Try.prog (kc (tabOf [e_l01Is, e_l04Transposed])) 40 (rnd [] 40 N) 31 [.agg [I p, I r, I k, I c, .vi .u8 27 n q]]  done =
    (bif (!(isB p r k c n q)) then (some ((AV.tup [(AV.agg [I 0, I 0, I 0, I 0, AV.nilsl]), I 1]), [], true)) else
    LspecFlip_5 p r k c n q N N 0 0 (nthR [])) := by kernel_rfl
theorem rspecFlip_5 (p : Int) (r : Int) (k : Int) (c : Int) (n : Nat) (q : Nat → Nat → Int) (N : Nat) (m : Nat) (x5 : Int) (ny4_4 : Nat) (qh0 : Nat → Nat → Int) : LspecFlip_5 p r k c n q N  (m + 1) x5 ny4_4 qh0 =
    (bif (decide (x5 < ((n : Nat) : Int))) then (chk (decide ((0 ≤ x5) ∧ (x5 < ((n : Nat) : Int)))) <|
      chk ((decide ((1 ≤ k) ∧ (k ≤ 3))) && ((decide ((1 ≤ c) ∧ (c ≤ 3))) && (rng9 (pB (q (Int.toNat x5)))))) <|
      chk ((decide ((1 ≤ r) ∧ (r ≤ 3))) && ((decide ((1 ≤ k) ∧ (k ≤ 3))) && (rng9 (pA (q (Int.toNat x5)))))) <|
      chk ((decide ((1 ≤ r) ∧ (r ≤ 3))) && ((decide ((1 ≤ c) ∧ (c ≤ 3))) && (rng9 (pC (q (Int.toNat x5)))))) <|
      chk (ny4_4 == ny4_4) <|
      chk (decide ((ny4_4 + 1) ≤ 4294967296)) <|
      chk (decide (ny4_4 = ny4_4)) <|
      LspecFlip_5 p r k c n q N m (W (x5 + 1)) (ny4_4 + 1) (fun a c1 => (bif (decide (a < ny4_4)) then (qh0 a c1) else (prodQ (transQ (Int.toNat k) (Int.toNat c) (pB (q (Int.toNat x5)))) (transQ (Int.toNat r) (Int.toNat k) (pA (q (Int.toNat x5)))) (transQ (Int.toNat r) (Int.toNat c) (pC (q (Int.toNat x5)))) c1)))) else
    some ((AV.tup [(AV.agg [I p, I c, I k, I r, (AV.sl 0 0 ny4_4 ny4_4)]), I 0]), [(KB.mk 64 27 (KR.ints .u8 27 ny4_4 qh0))], true)) := by kernel_rfl

def SimplFlip_5 (p : Int) (r : Int) (k : Int) (c : Int) (n : Nat) (q : Nat → Nat → Int)  : KS := ⟨[(1, (AV.lptr 1 0)), (2, (AV.lptr 2 0)), (4, (AV.lptr 4 0)), (21, (AV.vi .u8 27 n q)), (22, I ((n : Nat) : Int)), (23, I 0)], [(1, [I p, I r, I k, I c, (AV.vi .u8 27 n q)]), (2, [I 0, I 0, I 0, I 0, AV.nilsl]), (4, [I p, I c, I k, I r, AV.nilsl])], [], 0, true⟩
noncomputable def LimplFlip_5 (p : Int) (r : Int) (k : Int) (c : Int) (n : Nat) (q : Nat → Nat → Int) (N : Nat) (m : Nat) : R := loopAtH Try.prog (kc (tabOf [e_IsScheme, e_turnedForm])) 40 (rnd [] 40 N) 32 [] [true, true, true, false, true, false] [] m (SimplFlip_5 p r k c n q ) done
def SimplFlip_5b (p : Int) (r : Int) (k : Int) (c : Int) (n : Nat) (q : Nat → Nat → Int) (x23 : Int) (ny4_4 : Nat) (qh0 : Nat → Nat → Int) : KS := ⟨[(1, (AV.lptr 1 0)), (2, (AV.lptr 2 0)), (4, (AV.lptr 4 0)), (21, (AV.vi .u8 27 n q)), (22, I ((n : Nat) : Int)), (23, I x23)], [(1, [I p, I r, I k, I c, (AV.vi .u8 27 n q)]), (2, [I 0, I 0, I 0, I 0, AV.nilsl]), (4, [I p, I c, I k, I r, (AV.sl 0 0 ny4_4 ny4_4)])], [(KB.mk 64 27 (KR.ints .u8 27 ny4_4 qh0))], 0, true⟩
noncomputable def LimplFlip_5b (p : Int) (r : Int) (k : Int) (c : Int) (n : Nat) (q : Nat → Nat → Int) (N : Nat) (m : Nat) (x23 : Int) (ny4_4 : Nat) (qh0 : Nat → Nat → Int) : R := loopAtH Try.prog (kc (tabOf [e_IsScheme, e_turnedForm])) 40 (rnd [] 40 N) 32 [] [true, true, true, false, true, false] [] m (SimplFlip_5b p r k c n q x23 ny4_4 qh0) done
theorem simplFlip (p : Int) (r : Int) (k : Int) (c : Int) (n : Nat) (q : Nat → Nat → Int) (N : Nat) : fnK Try.prog (kc (tabOf [e_IsScheme, e_turnedForm])) 40 (rnd [] 40 N) 32 [.agg [I p, I r, I k, I c, .vi .u8 27 n q]]  done =
    (bif (!(isB p r k c n q)) then (some ((AV.tup [(AV.agg [I 0, I 0, I 0, I 0, AV.nilsl]), I 1]), [], true)) else
    LimplFlip_5 p r k c n q N N) := by kernel_rfl
theorem rimplFlip_5 (p : Int) (r : Int) (k : Int) (c : Int) (n : Nat) (q : Nat → Nat → Int) (N : Nat) (m : Nat) : LimplFlip_5 p r k c n q N  (m + 1)  =
    (bif (decide (0 < ((n : Nat) : Int))) then (chk (decide (((0 : Int) ≤ 0) ∧ (0 < ((n : Nat) : Int)))) <|
      chk ((decide ((1 ≤ k) ∧ (k ≤ 3))) && ((decide ((1 ≤ c) ∧ (c ≤ 3))) && (rng9 (pB (q 0))))) <|
      chk ((decide ((1 ≤ r) ∧ (r ≤ 3))) && ((decide ((1 ≤ k) ∧ (k ≤ 3))) && (rng9 (pA (q 0))))) <|
      chk ((decide ((1 ≤ r) ∧ (r ≤ 3))) && ((decide ((1 ≤ c) ∧ (c ≤ 3))) && (rng9 (pC (q 0))))) <|
      LimplFlip_5b p r k c n q N m 1 1 (fun _ => (prodQ (transQ (Int.toNat k) (Int.toNat c) (pB (q 0))) (transQ (Int.toNat r) (Int.toNat k) (pA (q 0))) (transQ (Int.toNat r) (Int.toNat c) (pC (q 0)))))) else
    some ((AV.tup [(AV.agg [I p, I c, I k, I r, AV.nilsl]), I 0]), [], true)) := by kernel_rfl
theorem rimplFlip_5b (p : Int) (r : Int) (k : Int) (c : Int) (n : Nat) (q : Nat → Nat → Int) (N : Nat) (m : Nat) (x23 : Int) (ny4_4 : Nat) (qh0 : Nat → Nat → Int) : LimplFlip_5b p r k c n q N  (m + 1) x23 ny4_4 qh0 =
    (bif (decide (x23 < ((n : Nat) : Int))) then (chk (decide ((0 ≤ x23) ∧ (x23 < ((n : Nat) : Int)))) <|
      chk ((decide ((1 ≤ k) ∧ (k ≤ 3))) && ((decide ((1 ≤ c) ∧ (c ≤ 3))) && (rng9 (pB (q (Int.toNat x23)))))) <|
      chk ((decide ((1 ≤ r) ∧ (r ≤ 3))) && ((decide ((1 ≤ k) ∧ (k ≤ 3))) && (rng9 (pA (q (Int.toNat x23)))))) <|
      chk ((decide ((1 ≤ r) ∧ (r ≤ 3))) && ((decide ((1 ≤ c) ∧ (c ≤ 3))) && (rng9 (pC (q (Int.toNat x23)))))) <|
      chk (ny4_4 == ny4_4) <|
      chk (decide ((ny4_4 + 1) ≤ 4294967296)) <|
      chk (decide (ny4_4 = ny4_4)) <|
      LimplFlip_5b p r k c n q N m (W (x23 + 1)) (ny4_4 + 1) (fun a c1 => (bif (decide (a < ny4_4)) then (qh0 a c1) else (prodQ (transQ (Int.toNat k) (Int.toNat c) (pB (q (Int.toNat x23)))) (transQ (Int.toNat r) (Int.toNat k) (pA (q (Int.toNat x23)))) (transQ (Int.toNat r) (Int.toNat c) (pC (q (Int.toNat x23)))) c1)))) else
    some ((AV.tup [(AV.agg [I p, I c, I k, I r, (AV.sl 0 0 ny4_4 ny4_4)]), I 0]), [(KB.mk 64 27 (KR.ints .u8 27 ny4_4 qh0))], true)) := by kernel_rfl

end Go.Proofs.Ytpjhlkidebcllaa.Fn
