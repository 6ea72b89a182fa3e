/- Equations of the abstract machine for some functions and their loops, printed by a program. -/
import Derived.Test.YtpjhlkidebcllaaDa
import Derived.Test.YtpjhlkidebcllaaDk
import Derived.Test.YtpjhlkidebcllaaDjoin
namespace Go.Proofs.Ytpjhlkidebcllaa.Fn
open Go Go.Proofs.Ytpjhlkidebcllaa.Abs
set_option maxRecDepth 100000
set_option linter.unusedVariables false
def Sframed_6 (p : Int) (r : Int) (k : Int) (c : Int) (n : Nat) (q : Nat → Nat → Int) (P1 : Int) (R1 : Int) (K1 : Int) (C1 : Int) (row : Int) (inner : Int) (col : Int) (n14 : Nat) (x48 : Int) (qh0 : Nat → Nat → Int) : KS := ⟨[(11, (AV.lptr 11 0)), (12, (AV.lptr 12 0)), (13, (AV.lptr 13 0)), (14, (AV.sl 0 0 n14 n14)), (46, (AV.vi .u8 27 n q)), (47, I ((n : Nat) : Int)), (48, I x48)], [(11, [I r, I k, I K1, I row, I inner]), (12, [I k, I c, I C1, I inner, I col]), (13, [I r, I c, I C1, I row, I col])], [(KB.mk 64 27 (KR.ints .u8 27 n14 qh0))], 0, true⟩
noncomputable def Lframed_6 (p : Int) (r : Int) (k : Int) (c : Int) (n : Nat) (q : Nat → Nat → Int) (P1 : Int) (R1 : Int) (K1 : Int) (C1 : Int) (row : Int) (inner : Int) (col : Int) (N : Nat) (m : Nat) (n14 : Nat) (x48 : Int) (qh0 : Nat → Nat → Int) : R := loopAtH Try.prog (kc (tabOf [e_put])) 40 (rnd [] 40 N) 104 [] [true, true, true, true, true, false, true, false] [] m (Sframed_6 p r k c n q P1 R1 K1 C1 row inner col n14 x48 qh0) done
theorem sframed (p : Int) (r : Int) (k : Int) (c : Int) (n : Nat) (q : Nat → Nat → Int) (P1 : Int) (R1 : Int) (K1 : Int) (C1 : Int) (row : Int) (inner : Int) (col : Int) (N : Nat) : fnK Try.prog (kc (tabOf [e_put])) 40 (rnd [] 40 N) 104 [.agg [I p, I r, I k, I c, .vi .u8 27 n q], .agg [I P1, I R1, I K1, I C1, .nilsl], I row, I inner, I col]  done =
    (Lframed_6 p r k c n q P1 R1 K1 C1 row inner col N N 0 0 (nthR [])) := by kernel_rfl
theorem rframed_6 (p : Int) (r : Int) (k : Int) (c : Int) (n : Nat) (q : Nat → Nat → Int) (P1 : Int) (R1 : Int) (K1 : Int) (C1 : Int) (row : Int) (inner : Int) (col : Int) (N : Nat) (m : Nat) (n14 : Nat) (x48 : Int) (qh0 : Nat → Nat → Int) : Lframed_6 p r k c n q P1 R1 K1 C1 row inner col N  (m + 1) n14 x48 qh0 =
    (bif (decide (x48 < ((n : Nat) : Int))) then (chk (decide ((0 ≤ x48) ∧ (x48 < ((n : Nat) : Int)))) <|
      chk (movB r k K1 row inner) <|
      chk (movB k c C1 inner col) <|
      chk (movB r c C1 row col) <|
      chk (n14 == n14) <|
      chk (decide ((n14 + 1) ≤ 4294967296)) <|
      chk (decide (n14 = n14)) <|
      Lframed_6 p r k c n q P1 R1 K1 C1 row inner col N m (n14 + 1) (W (x48 + 1)) (fun a c1 => (bif (decide (a < n14)) then (qh0 a c1) else (prodQ (movQ (Int.toNat r) (Int.toNat k) (Int.toNat K1) (Int.toNat row) (Int.toNat inner) (pA (q (Int.toNat x48)))) (movQ (Int.toNat k) (Int.toNat c) (Int.toNat C1) (Int.toNat inner) (Int.toNat col) (pB (q (Int.toNat x48)))) (movQ (Int.toNat r) (Int.toNat c) (Int.toNat C1) (Int.toNat row) (Int.toNat col) (pC (q (Int.toNat x48)))) c1)))) else
    some ((AV.sl 0 0 n14 n14), [(KB.mk 64 27 (KR.ints .u8 27 n14 qh0))], true)) := by kernel_rfl

def Sl02Put_2 (p : Int) (r : Int) (k : Int) (c : Int) (n : Nat) (q : Nat → Nat → Int) (P1 : Int) (R1 : Int) (K1 : Int) (C1 : Int) (row : Int) (inner : Int) (col : Int) (t : Nat) (b : Nat → Nat → Int) (x11 : Int) (ny6_4 : Nat) (qh0 : Nat → Nat → Int) (cl : Bool) : KS := ⟨[(2, I row), (3, I inner), (4, I col), (5, (AV.lptr 5 0)), (6, (AV.lptr 6 0)), (10, (AV.lptr 10 0)), (11, I x11)], [(5, [I p, I r, I k, I c, (AV.vi .u8 27 n q)]), (6, [I P1, I R1, I K1, I C1, (AV.sl 0 0 ny6_4 ny6_4)]), (10, [I 0, I 0, I 0, I 0, AV.nilsl])], [(KB.mk 64 27 (KR.ints .u8 27 ny6_4 qh0))], 1, cl⟩
noncomputable def Ll02Put_2 (p : Int) (r : Int) (k : Int) (c : Int) (n : Nat) (q : Nat → Nat → Int) (P1 : Int) (R1 : Int) (K1 : Int) (C1 : Int) (row : Int) (inner : Int) (col : Int) (t : Nat) (b : Nat → Nat → Int) (N : Nat) (m : Nat) (x11 : Int) (ny6_4 : Nat) (qh0 : Nat → Nat → Int) (cl : Bool) : R := loopAtH Try.prog (kc (tabOf [e_l02Moved])) 40 (rnd [] 40 N) 119 [KB.ofNB ⟨tProduct, 27, .u8, t, b⟩] [true, false, true, false] [] m (Sl02Put_2 p r k c n q P1 R1 K1 C1 row inner col t b x11 ny6_4 qh0 cl) done
theorem sl02Put (p : Int) (r : Int) (k : Int) (c : Int) (n : Nat) (q : Nat → Nat → Int) (P1 : Int) (R1 : Int) (K1 : Int) (C1 : Int) (row : Int) (inner : Int) (col : Int) (t : Nat) (b : Nat → Nat → Int) (N : Nat) : fnKH Try.prog (kc (tabOf [e_l02Moved])) 40 (rnd [] 40 N) 119 [.agg [I p, I r, I k, I c, .vi .u8 27 n q], .agg [I P1, I R1, I K1, I C1, .sl 0 0 t t], I row, I inner, I col] [KB.ofNB ⟨tProduct, 27, .u8, t, b⟩] done =
    (Ll02Put_2 p r k c n q P1 R1 K1 C1 row inner col t b N N 0 t b true) := by kernel_rfl
theorem rl02Put_2 (p : Int) (r : Int) (k : Int) (c : Int) (n : Nat) (q : Nat → Nat → Int) (P1 : Int) (R1 : Int) (K1 : Int) (C1 : Int) (row : Int) (inner : Int) (col : Int) (t : Nat) (b : Nat → Nat → Int) (N : Nat) (m : Nat) (x11 : Int) (ny6_4 : Nat) (qh0 : Nat → Nat → Int) (cl : Bool) : Ll02Put_2 p r k c n q P1 R1 K1 C1 row inner col t b N  (m + 1) x11 ny6_4 qh0 cl =
    (bif (decide (x11 < ((n : Nat) : Int))) then (chk (decide ((0 ≤ x11) ∧ (x11 < ((n : Nat) : Int)))) <|
      chk (movB r k K1 row inner) <|
      chk (movB k c C1 inner col) <|
      chk (movB r c C1 row col) <|
      chk (ny6_4 == ny6_4) <|
      chk (decide ((ny6_4 + 1) ≤ 4294967296)) <|
      chk (decide (ny6_4 = ny6_4)) <|
      Ll02Put_2 p r k c n q P1 R1 K1 C1 row inner col t b N m (W (x11 + 1)) (ny6_4 + 1) (fun a c1 => (bif (decide (a < ny6_4)) then (qh0 a c1) else (prodQ (movQ (Int.toNat r) (Int.toNat k) (Int.toNat K1) (Int.toNat row) (Int.toNat inner) (pA (q (Int.toNat x11)))) (movQ (Int.toNat k) (Int.toNat c) (Int.toNat C1) (Int.toNat inner) (Int.toNat col) (pB (q (Int.toNat x11)))) (movQ (Int.toNat r) (Int.toNat c) (Int.toNat C1) (Int.toNat row) (Int.toNat col) (pC (q (Int.toNat x11)))) c1))) ((((((((((((((((((((((((((((((((((((((((((((((((((((((((((cl && true) && true) && true) && true) && true) && true) && true) && true) && true) && true) && true) && true) && true) && true) && true) && true) && true) && true) && true) && true) && true) && true) && true) && true) && true) && true) && true) && true) && true) && true) && true) && true) && true) && true) && true) && true) && true) && true) && true) && true) && true) && true) && true) && true) && true) && true) && true) && true) && true) && true) && true) && true) && false) && true) && true) && true) && true) && true)) else
    bif (((((((cl && true) && true) && true) && true) && true) && true) && true) then (some ((AV.agg [I P1, I R1, I K1, I C1, (AV.sl 0 0 ny6_4 ny6_4)]), [(KB.mk 64 27 (KR.ints .u8 27 t b))], true)) else
    some ((AV.agg [I P1, I R1, I K1, I C1, (AV.sl 0 0 ny6_4 ny6_4)]), [(KB.mk 64 27 (KR.ints .u8 27 ny6_4 qh0))], true)) := by kernel_rfl

end Go.Proofs.Ytpjhlkidebcllaa.Fn
