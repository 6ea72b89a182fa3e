/- Equations of the abstract machine for some functions and their loops, printed by a program. -/
import Derived.Test.YtjdciikfbinchaaDa
import Derived.Test.YtjdciikfbinchaaDb
namespace Go.Proofs.Ytjdciikfbinchaa.Fn
open Go Go.Proofs.Ytjdciikfbinchaa.Abs
set_option maxRecDepth 100000
set_option linter.unusedVariables false
theorem sl01Places (p : Int) (r : Int) (k : Int) (c : Int) (n : Nat) (q : Nat → Nat → Int) (a : Int) (b : Int) (d : Int) (N : Nat) : fnK Try.prog (kc (tabOf [e_l01Is])) 40 (rnd [] 40 N) 76 [.agg [I p, I r, I k, I c, .vi .u8 27 n q], I a, I b, I d]  done =
    (bif (!(isB p r k c n q)) then (some (I 1, [], true)) else
    bif (decide (0 ≤ a)) then (bif (!(decide (a ≤ (W ((W (r * k)) - 1))))) then (some (I 2, [], true)) else
      bif (decide (0 ≤ b)) then (bif (!(decide (b ≤ (W ((W (k * c)) - 1))))) then (some (I 2, [], true)) else
        bif (decide (0 ≤ d)) then (bif (!(decide (d ≤ (W ((W (r * c)) - 1))))) then (some (I 2, [], true)) else
          some (I 0, [], true)) else
        some (I 2, [], true)) else
      some (I 2, [], true)) else
    some (I 2, [], true)) := by kernel_rfl

theorem sequationCode (p : Int) (r : Int) (k : Int) (c : Int) (n : Nat) (q : Nat → Nat → Int) (a : Int) (b : Int) (d : Int) (N : Nat) : fnK Try.prog (kc (tabOf [e_IsScheme])) 40 (rnd [4] 5 N) 78 [.agg [I p, I r, I k, I c, .vi .u8 27 n q], .vs 1 [[I a], [I b], [I d]]]  done =
    (bif (!(isB p r k c n q)) then (some (I 1, [], true)) else
    bif (decide (a < 0)) then (some (I 2, [], true)) else
    bif (decide ((W (r * k)) ≤ a)) then (some (I 2, [], true)) else
    bif (decide (b < 0)) then (some (I 2, [], true)) else
    bif (decide ((W (k * c)) ≤ b)) then (some (I 2, [], true)) else
    bif (decide (d < 0)) then (some (I 2, [], true)) else
    bif (decide ((W (r * c)) ≤ d)) then (some (I 2, [], true)) else
    some (I 0, [], true)) := by kernel_rfl

theorem sl01Want (p : Int) (r : Int) (k : Int) (c : Int) (n : Nat) (q : Nat → Nat → Int) (a : Int) (b : Int) (d : Int) (N : Nat) : fnK Try.prog (kc (tabOf [])) 40 (rnd [] 40 N) 77 [.agg [I p, I r, I k, I c, .vi .u8 27 n q], I a, I b, I d]  done =
    (chkn (decide (k = 0)) <|
    chkn (decide (c = 0)) <|
    bif (decide ((Int.tmod a k) = (W (Int.tdiv b c)))) then (chkn (decide (k = 0)) <|
      chkn (decide (c = 0)) <|
      bif (decide ((W (Int.tdiv a k)) = (W (Int.tdiv d c)))) then (chkn (decide (c = 0)) <|
        chkn (decide (c = 0)) <|
        bif (decide ((Int.tmod b c) = (Int.tmod d c))) then (some (I 1, [], true)) else
        some (I 0, [], true)) else
      some (I 0, [], true)) else
    some (I 0, [], true)) := by kernel_rfl

theorem srightSide (p : Int) (r : Int) (k : Int) (c : Int) (n : Nat) (q : Nat → Nat → Int) (a : Int) (b : Int) (d : Int) (N : Nat) : fnK Try.prog (kc (tabOf [])) 40 (rnd [] 40 N) 79 [.agg [I p, I r, I k, I c, .vi .u8 27 n q], I a, I b, I d]  done =
    (chkn (decide (k = 0)) <|
    chkn (decide (c = 0)) <|
    bif (decide ((Int.tmod a k) = (W (Int.tdiv b c)))) then (chkn (decide (k = 0)) <|
      chkn (decide (c = 0)) <|
      bif (decide ((W (Int.tdiv a k)) = (W (Int.tdiv d c)))) then (chkn (decide (c = 0)) <|
        chkn (decide (c = 0)) <|
        bif (decide ((Int.tmod b c) = (Int.tmod d c))) then (some (I 1, [], true)) else
        some (I 0, [], true)) else
      some (I 0, [], true)) else
    some (I 0, [], true)) := by kernel_rfl

def Sl01Sum_3 (p : Int) (r : Int) (k : Int) (c : Int) (n : Nat) (q : Nat → Nat → Int) (a : Int) (b : Int) (d : Int) (x9 : Int) (x10 : Int) : KS := ⟨[(1, I a), (2, I b), (3, I d), (4, (AV.lptr 4 0)), (9, I x9), (10, I x10)], [(4, [I p, I r, I k, I c, (AV.vi .u8 27 n q)])], [], 0, true⟩
noncomputable def Ll01Sum_3 (p : Int) (r : Int) (k : Int) (c : Int) (n : Nat) (q : Nat → Nat → Int) (a : Int) (b : Int) (d : Int) (N : Nat) (m : Nat) (x9 : Int) (x10 : Int) : R := loopAtH Try.prog (kc (tabOf [])) 40 (rnd [] 40 N) 80 [] [true, true, false, true, false] [] m (Sl01Sum_3 p r k c n q a b d x9 x10) done
theorem sl01Sum (p : Int) (r : Int) (k : Int) (c : Int) (n : Nat) (q : Nat → Nat → Int) (a : Int) (b : Int) (d : Int) (N : Nat) : fnK Try.prog (kc (tabOf [])) 40 (rnd [] 40 N) 80 [.agg [I p, I r, I k, I c, .vi .u8 27 n q], I a, I b, I d]  done =
    (Ll01Sum_3 p r k c n q a b d N N 0 0) := by kernel_rfl
theorem rl01Sum_3 (p : Int) (r : Int) (k : Int) (c : Int) (n : Nat) (q : Nat → Nat → Int) (a : Int) (b : Int) (d : Int) (N : Nat) (m : Nat) (x9 : Int) (x10 : Int) : Ll01Sum_3 p r k c n q a b d N  (m + 1) x9 x10 =
    (bif (decide (x10 < ((n : Nat) : Int))) then (chk (decide ((0 ≤ x10) ∧ (x10 < ((n : Nat) : Int)))) <|
      chk (decide ((0 ≤ a) ∧ (a < 9))) <|
      chk (decide ((0 + ((Int.toNat a) * 1)) < 27)) <|
      chk (decide ((0 ≤ b) ∧ (b < 9))) <|
      chk (decide ((9 + ((Int.toNat b) * 1)) < 27)) <|
      chk (decide ((0 ≤ d) ∧ (d < 9))) <|
      chk (decide ((18 + ((Int.toNat d) * 1)) < 27)) <|
      Ll01Sum_3 p r k c n q a b d N m (W (x9 + (W ((W ((W (nthI (intsFrom (q (Int.toNat x10)) 0 27) (0 + ((Int.toNat a) * 1)))) * (W (nthI (intsFrom (q (Int.toNat x10)) 0 27) (9 + ((Int.toNat b) * 1)))))) * (W (nthI (intsFrom (q (Int.toNat x10)) 0 27) (18 + ((Int.toNat d) * 1)))))))) (W (x10 + 1))) else
    chkn (decide (p = 0)) <|
    some (I (Int.tmod x9 p), [], true)) := by kernel_rfl

def SleftSide_3 (p : Int) (r : Int) (k : Int) (c : Int) (n : Nat) (q : Nat → Nat → Int) (a : Int) (b : Int) (d : Int) (x9 : Int) (x15 : Int) : KS := ⟨[(1, I a), (2, I b), (3, I d), (4, (AV.lptr 4 0)), (9, I x9), (13, (AV.vi .u8 27 n q)), (14, I ((n : Nat) : Int)), (15, I x15)], [(4, [I p, I r, I k, I c, (AV.vi .u8 27 n q)])], [], 0, true⟩
noncomputable def LleftSide_3 (p : Int) (r : Int) (k : Int) (c : Int) (n : Nat) (q : Nat → Nat → Int) (a : Int) (b : Int) (d : Int) (N : Nat) (m : Nat) (x9 : Int) (x15 : Int) : R := loopAtH Try.prog (kc (tabOf [])) 40 (rnd [] 40 N) 81 [] [true, true, false, true, false] [] m (SleftSide_3 p r k c n q a b d x9 x15) done
theorem sleftSide (p : Int) (r : Int) (k : Int) (c : Int) (n : Nat) (q : Nat → Nat → Int) (a : Int) (b : Int) (d : Int) (N : Nat) : fnK Try.prog (kc (tabOf [])) 40 (rnd [] 40 N) 81 [.agg [I p, I r, I k, I c, .vi .u8 27 n q], I a, I b, I d]  done =
    (LleftSide_3 p r k c n q a b d N N 0 0) := by kernel_rfl
theorem rleftSide_3 (p : Int) (r : Int) (k : Int) (c : Int) (n : Nat) (q : Nat → Nat → Int) (a : Int) (b : Int) (d : Int) (N : Nat) (m : Nat) (x9 : Int) (x15 : Int) : LleftSide_3 p r k c n q a b d N  (m + 1) x9 x15 =
    (bif (decide (x15 < ((n : Nat) : Int))) then (chk (decide ((0 ≤ x15) ∧ (x15 < ((n : Nat) : Int)))) <|
      chk (decide ((0 ≤ a) ∧ (a < 9))) <|
      chk (decide ((0 + ((Int.toNat a) * 1)) < 27)) <|
      chk (decide ((0 ≤ b) ∧ (b < 9))) <|
      chk (decide ((9 + ((Int.toNat b) * 1)) < 27)) <|
      chk (decide ((0 ≤ d) ∧ (d < 9))) <|
      chk (decide ((18 + ((Int.toNat d) * 1)) < 27)) <|
      LleftSide_3 p r k c n q a b d N m (W (x9 + (W ((W ((W (nthI (intsFrom (q (Int.toNat x15)) 0 27) (0 + ((Int.toNat a) * 1)))) * (W (nthI (intsFrom (q (Int.toNat x15)) 0 27) (9 + ((Int.toNat b) * 1)))))) * (W (nthI (intsFrom (q (Int.toNat x15)) 0 27) (18 + ((Int.toNat d) * 1)))))))) (W (x15 + 1))) else
    chkn (decide (p = 0)) <|
    some (I (Int.tmod x9 p), [], true)) := by kernel_rfl

theorem slawRightSide (p : Int) (r : Int) (k : Int) (c : Int) (n : Nat) (q : Nat → Nat → Int) (a : Int) (b : Int) (d : Int) (N : Nat) : fnK Try.prog (kc (tabOf [e_l01Places, e_equationCode, e_l01Want, e_rightSide, e_toProductS, e_eqProductS])) 40 (rnd [] 40 N) 7 [.agg [I p, I r, I k, I c, .vi .u8 27 n q], I a, I b, I d]  done =
    (bif (decide ((W (1048576 - ((n : Nat) : Int))) < 0)) then (some ((AV.bool true), [], true)) else
    bif (decide ((W (1048576 - ((n : Nat) : Int))) < 0)) then (some ((AV.bool true), [], true)) else
    bif (decide ((W (1048576 - ((n : Nat) : Int))) < 0)) then (some ((AV.bool true), [], true)) else
    chk (decide (n ≤ 1048576)) <|
    chk (n == n) <|
    chk (decide ((0 + n) ≤ n)) <|
    chk ((decide (in64 a)) && ((decide (in64 b)) && (decide (in64 d)))) <|
    bif (!(decide ((codeB (isB p r k c n (canonI n 27 q)) r k c a b d) = 0))) then (chk (decide (n ≤ 1048576)) <|
      chk (n == n) <|
      chk (decide ((0 + n) ≤ n)) <|
      bif (!(decide ((codeB (isB p r k c n (canonI n 27 q)) r k c a b d) = 0))) then (bif (!(decide ((codeB (isB p r k c n (canonI n 27 q)) r k c a b d) = (codeB (isB p r k c n (canonI n 27 q)) r k c a b d)))) then (some ((AV.bool false), [], true)) else
        chk (decide (n ≤ 1048576)) <|
        bif (!(decide (p = p))) then (some ((AV.bool false), [], true)) else
        bif (!(decide (r = r))) then (some ((AV.bool false), [], true)) else
        bif (!(decide (k = k))) then (some ((AV.bool false), [], true)) else
        bif (!(decide (c = c))) then (some ((AV.bool false), [], true)) else
        chk (n == n) <|
        chk (decide ((0 + n) ≤ n)) <|
        chk (n == n) <|
        chk (decide ((0 + n) ≤ n)) <|
        chk (decide (n ≤ 1048576)) <|
        bif (!(eqPs n (canonI n 27 q) n (canonI n 27 q))) then (some ((AV.bool false), [], true)) else
        some ((AV.bool true), [], true)) else
      chk (n == n) <|
      chk (decide ((0 + n) ≤ n)) <|
      chk ((!(decide (k = 0))) && (!(decide (c = 0)))) <|
      bif (!(decide ((wantB k c a b d) = 0))) then (some ((AV.bool false), [], true)) else
      bif (!(decide (0 = (codeB (isB p r k c n (canonI n 27 q)) r k c a b d)))) then (some ((AV.bool false), [], true)) else
      chk (decide (n ≤ 1048576)) <|
      bif (!(decide (p = p))) then (some ((AV.bool false), [], true)) else
      bif (!(decide (r = r))) then (some ((AV.bool false), [], true)) else
      bif (!(decide (k = k))) then (some ((AV.bool false), [], true)) else
      bif (!(decide (c = c))) then (some ((AV.bool false), [], true)) else
      chk (n == n) <|
      chk (decide ((0 + n) ≤ n)) <|
      chk (n == n) <|
      chk (decide ((0 + n) ≤ n)) <|
      chk (decide (n ≤ 1048576)) <|
      bif (!(eqPs n (canonI n 27 q) n (canonI n 27 q))) then (some ((AV.bool false), [], true)) else
      some ((AV.bool true), [], true)) else
    chk (n == n) <|
    chk (decide ((0 + n) ≤ n)) <|
    chk ((!(decide (k = 0))) && (!(decide (c = 0)))) <|
    chk (decide (n ≤ 1048576)) <|
    chk (n == n) <|
    chk (decide ((0 + n) ≤ n)) <|
    bif (!(decide ((codeB (isB p r k c n (canonI n 27 q)) r k c a b d) = 0))) then (bif (!(decide (0 = (wantB k c a b d)))) then (some ((AV.bool false), [], true)) else
      bif (!(decide ((codeB (isB p r k c n (canonI n 27 q)) r k c a b d) = 0))) then (some ((AV.bool false), [], true)) else
      chk (decide (n ≤ 1048576)) <|
      bif (!(decide (p = p))) then (some ((AV.bool false), [], true)) else
      bif (!(decide (r = r))) then (some ((AV.bool false), [], true)) else
      bif (!(decide (k = k))) then (some ((AV.bool false), [], true)) else
      bif (!(decide (c = c))) then (some ((AV.bool false), [], true)) else
      chk (n == n) <|
      chk (decide ((0 + n) ≤ n)) <|
      chk (n == n) <|
      chk (decide ((0 + n) ≤ n)) <|
      chk (decide (n ≤ 1048576)) <|
      bif (!(eqPs n (canonI n 27 q) n (canonI n 27 q))) then (some ((AV.bool false), [], true)) else
      some ((AV.bool true), [], true)) else
    chk (n == n) <|
    chk (decide ((0 + n) ≤ n)) <|
    chk ((!(decide (k = 0))) && (!(decide (c = 0)))) <|
    bif (!(decide ((wantB k c a b d) = (wantB k c a b d)))) then (some ((AV.bool false), [], true)) else
    chk (decide (n ≤ 1048576)) <|
    bif (!(decide (p = p))) then (some ((AV.bool false), [], true)) else
    bif (!(decide (r = r))) then (some ((AV.bool false), [], true)) else
    bif (!(decide (k = k))) then (some ((AV.bool false), [], true)) else
    bif (!(decide (c = c))) then (some ((AV.bool false), [], true)) else
    chk (n == n) <|
    chk (decide ((0 + n) ≤ n)) <|
    chk (n == n) <|
    chk (decide ((0 + n) ≤ n)) <|
    chk (decide (n ≤ 1048576)) <|
    bif (!(eqPs n (canonI n 27 q) n (canonI n 27 q))) then (some ((AV.bool false), [], true)) else
    some ((AV.bool true), [], true)) := by kernel_rfl

theorem slawLeftSide (p : Int) (r : Int) (k : Int) (c : Int) (n : Nat) (q : Nat → Nat → Int) (a : Int) (b : Int) (d : Int) (N : Nat) : fnK Try.prog (kc (tabOf [e_l01Places, e_equationCode, e_l01Sum, e_leftSide, e_toProductS, e_eqProductS])) 40 (rnd [] 40 N) 8 [.agg [I p, I r, I k, I c, .vi .u8 27 n q], I a, I b, I d]  done =
    (bif (decide ((W (1048576 - ((n : Nat) : Int))) < 0)) then (some ((AV.bool true), [], true)) else
    bif (decide ((W (1048576 - ((n : Nat) : Int))) < 0)) then (some ((AV.bool true), [], true)) else
    bif (decide ((W (1048576 - ((n : Nat) : Int))) < 0)) then (some ((AV.bool true), [], true)) else
    chk (decide (n ≤ 1048576)) <|
    chk (n == n) <|
    chk (decide ((0 + n) ≤ n)) <|
    chk ((decide (in64 a)) && ((decide (in64 b)) && (decide (in64 d)))) <|
    bif (!(decide ((codeB (isB p r k c n (canonI n 27 q)) r k c a b d) = 0))) then (chk (decide (n ≤ 1048576)) <|
      chk (n == n) <|
      chk (decide ((0 + n) ≤ n)) <|
      bif (!(decide ((codeB (isB p r k c n (canonI n 27 q)) r k c a b d) = 0))) then (bif (!(decide ((codeB (isB p r k c n (canonI n 27 q)) r k c a b d) = (codeB (isB p r k c n (canonI n 27 q)) r k c a b d)))) then (some ((AV.bool false), [], true)) else
        chk (decide (n ≤ 1048576)) <|
        bif (!(decide (p = p))) then (some ((AV.bool false), [], true)) else
        bif (!(decide (r = r))) then (some ((AV.bool false), [], true)) else
        bif (!(decide (k = k))) then (some ((AV.bool false), [], true)) else
        bif (!(decide (c = c))) then (some ((AV.bool false), [], true)) else
        chk (n == n) <|
        chk (decide ((0 + n) ≤ n)) <|
        chk (n == n) <|
        chk (decide ((0 + n) ≤ n)) <|
        chk (decide (n ≤ 1048576)) <|
        bif (!(eqPs n (canonI n 27 q) n (canonI n 27 q))) then (some ((AV.bool false), [], true)) else
        some ((AV.bool true), [], true)) else
      chk (n == n) <|
      chk (decide ((0 + n) ≤ n)) <|
      chk ((!(decide (p = 0))) && ((decide (n ≤ 30)) && ((inR a 9) && ((inR b 9) && (inR d 9))))) <|
      bif (!(decide ((leftB p n (canonI n 27 q) a b d) = 0))) then (some ((AV.bool false), [], true)) else
      bif (!(decide (0 = (codeB (isB p r k c n (canonI n 27 q)) r k c a b d)))) then (some ((AV.bool false), [], true)) else
      chk (decide (n ≤ 1048576)) <|
      bif (!(decide (p = p))) then (some ((AV.bool false), [], true)) else
      bif (!(decide (r = r))) then (some ((AV.bool false), [], true)) else
      bif (!(decide (k = k))) then (some ((AV.bool false), [], true)) else
      bif (!(decide (c = c))) then (some ((AV.bool false), [], true)) else
      chk (n == n) <|
      chk (decide ((0 + n) ≤ n)) <|
      chk (n == n) <|
      chk (decide ((0 + n) ≤ n)) <|
      chk (decide (n ≤ 1048576)) <|
      bif (!(eqPs n (canonI n 27 q) n (canonI n 27 q))) then (some ((AV.bool false), [], true)) else
      some ((AV.bool true), [], true)) else
    chk (n == n) <|
    chk (decide ((0 + n) ≤ n)) <|
    chk ((!(decide (p = 0))) && ((decide (n ≤ 30)) && ((inR a 9) && ((inR b 9) && (inR d 9))))) <|
    chk (decide (n ≤ 1048576)) <|
    chk (n == n) <|
    chk (decide ((0 + n) ≤ n)) <|
    bif (!(decide ((codeB (isB p r k c n (canonI n 27 q)) r k c a b d) = 0))) then (bif (!(decide (0 = (leftB p n (canonI n 27 q) a b d)))) then (some ((AV.bool false), [], true)) else
      bif (!(decide ((codeB (isB p r k c n (canonI n 27 q)) r k c a b d) = 0))) then (some ((AV.bool false), [], true)) else
      chk (decide (n ≤ 1048576)) <|
      bif (!(decide (p = p))) then (some ((AV.bool false), [], true)) else
      bif (!(decide (r = r))) then (some ((AV.bool false), [], true)) else
      bif (!(decide (k = k))) then (some ((AV.bool false), [], true)) else
      bif (!(decide (c = c))) then (some ((AV.bool false), [], true)) else
      chk (n == n) <|
      chk (decide ((0 + n) ≤ n)) <|
      chk (n == n) <|
      chk (decide ((0 + n) ≤ n)) <|
      chk (decide (n ≤ 1048576)) <|
      bif (!(eqPs n (canonI n 27 q) n (canonI n 27 q))) then (some ((AV.bool false), [], true)) else
      some ((AV.bool true), [], true)) else
    chk (n == n) <|
    chk (decide ((0 + n) ≤ n)) <|
    chk ((!(decide (p = 0))) && ((decide (n ≤ 30)) && ((inR a 9) && ((inR b 9) && (inR d 9))))) <|
    bif (!(decide ((leftB p n (canonI n 27 q) a b d) = (leftB p n (canonI n 27 q) a b d)))) then (some ((AV.bool false), [], true)) else
    chk (decide (n ≤ 1048576)) <|
    bif (!(decide (p = p))) then (some ((AV.bool false), [], true)) else
    bif (!(decide (r = r))) then (some ((AV.bool false), [], true)) else
    bif (!(decide (k = k))) then (some ((AV.bool false), [], true)) else
    bif (!(decide (c = c))) then (some ((AV.bool false), [], true)) else
    chk (n == n) <|
    chk (decide ((0 + n) ≤ n)) <|
    chk (n == n) <|
    chk (decide ((0 + n) ≤ n)) <|
    chk (decide (n ≤ 1048576)) <|
    bif (!(eqPs n (canonI n 27 q) n (canonI n 27 q))) then (some ((AV.bool false), [], true)) else
    some ((AV.bool true), [], true)) := by kernel_rfl

end Go.Proofs.Ytjdciikfbinchaa.Fn
