/- Equations of the abstract machine for some functions and their loops, printed by a program. -/
import Derived.Test.YtpjhlkidebcllaaDa
import Derived.Test.YtpjhlkidebcllaaDk
import Derived.Test.YtpjhlkidebcllaaDkept
namespace Go.Proofs.Ytpjhlkidebcllaa.Fn
open Go Go.Proofs.Ytpjhlkidebcllaa.Abs
set_option maxRecDepth 100000
set_option linter.unusedVariables false
def SdelFunc_5 (n : Nat) (q : Nat → Nat → Int) (x5 : Int) (x6 : Int) (qh0 : Nat → Nat → Int) (cl : Bool) : KS := ⟨[(0, (AV.sl 0 0 n n)), (1, (AV.fn 107 [])), (5, I x5), (6, I x6)], [], [(KB.mk 64 27 (KR.ints .u8 27 n qh0))], 1, cl⟩
noncomputable def LdelFunc_5 (n : Nat) (q : Nat → Nat → Int) (N : Nat) (m : Nat) (x5 : Int) (x6 : Int) (qh0 : Nat → Nat → Int) (cl : Bool) : R := loopAtH Try.prog (kc (tabOf [e_hasZero] [ce_indexFunc])) 40 (rnd [] 40 N) 106 [KB.ofNB ⟨tProduct, 27, .u8, n, q⟩] [true, true, true, false, true, false] [] m (SdelFunc_5 n q x5 x6 qh0 cl) done
theorem sdelFunc (n : Nat) (q : Nat → Nat → Int) (N : Nat) : fnKH Try.prog (kc (tabOf [e_hasZero] [ce_indexFunc])) 40 (rnd [] 40 N) 106 [.sl 0 0 n n, .fn fnHasZero []] [KB.ofNB ⟨tProduct, 27, .u8, n, q⟩] done =
    (chk (n == n) <|
    chk (decide ((0 + n) ≤ n)) <|
    bif (decide ((zfirst n (canonI n 27 q)) = n)) then (chk (decide (n ≤ 60)) <|
      some ((AV.sl 0 0 n n), [(KB.mk 64 27 (KR.ints .u8 27 n q))], true)) else
    chk (decide (n ≤ 60)) <|
    LdelFunc_5 n q N N (((zfirst n (canonI n 27 q)) : Nat) : Int) (W ((((zfirst n (canonI n 27 q)) : Nat) : Int) + 1)) q true) := by kernel_rfl
theorem rdelFunc_5 (n : Nat) (q : Nat → Nat → Int) (N : Nat) (m : Nat) (x5 : Int) (x6 : Int) (qh0 : Nat → Nat → Int) (cl : Bool) : LdelFunc_5 n q N  (m + 1) x5 x6 qh0 cl =
    (chk (n == n) <|
    bif (decide (x6 < ((n : Nat) : Int))) then (chk (n == n) <|
      chk (decide ((0 ≤ x6) ∧ (x6 < ((n : Nat) : Int)))) <|
      chk (decide ((0 + n) ≤ n)) <|
      chk (n == n) <|
      chk (decide ((0 + (Int.toNat x6)) < n)) <|
      bif (!(!(nzF (nthI (intsFrom (qh0 (0 + (Int.toNat x6))) 0 27))))) then (chk (n == n) <|
        chk (decide ((0 ≤ x5) ∧ (x5 < ((n : Nat) : Int)))) <|
        chk (decide ((0 + n) ≤ n)) <|
        chk (n == n) <|
        chk (decide ((0 + (Int.toNat x5)) < n)) <|
        LdelFunc_5 n q N m (W (x5 + 1)) (W (x6 + 1)) (fun a c => (bif (a == (0 + (Int.toNat x5))) then (nthI (intsFrom (qh0 (0 + (Int.toNat x6))) 0 27) c) else (qh0 a c))) (((((((((((((((((((((((((cl && true) && true) && true) && true) && true) && true) && true) && true) && true) && true) && true) && true) && true) && true) && true) && true) && true) && true) && false) && true) && true) && true) && true) && true) && true)) else
      LdelFunc_5 n q N m x5 (W (x6 + 1)) qh0 (((((((((((((((((cl && true) && true) && true) && true) && true) && true) && true) && true) && true) && true) && true) && true) && true) && true) && true) && true) && true)) else
    chk (n == n) <|
    chk (decide ((0 + n) ≤ n)) <|
    chk (decide ((0 ≤ x5) ∧ ((x5 ≤ ((n : Nat) : Int)) ∧ (((n : Nat) : Int) ≤ ((n : Nat) : Int))))) <|
    chk (n == n) <|
    chk (decide (((0 + (Int.toNat x5)) + (n - (Int.toNat x5))) ≤ n)) <|
    chk (n == n) <|
    chk (decide ((0 + n) ≤ n)) <|
    chk (decide (((0 : Int) ≤ 0) ∧ ((0 ≤ x5) ∧ (x5 ≤ ((n : Nat) : Int))))) <|
    bif ((((((((((((cl && true) && true) && true) && true) && true) && true) && true) && false) && true) && true) && true) && true) then (some ((AV.sl 0 0 ((Int.toNat x5) - 0) n), [(KB.mk 64 27 (KR.ints .u8 27 n q))], true)) else
    some ((AV.sl 0 0 ((Int.toNat x5) - 0) n), [(KB.mk 64 27 (KR.ints .u8 27 n (fun a c => (bif ((decide ((0 + (Int.toNat x5)) ≤ a)) && (decide (a < ((0 + (Int.toNat x5)) + (n - (Int.toNat x5)))))) then (nthI [0, 0, 0, 0, 0, 0, 0, 0, 0, 0, 0, 0, 0, 0, 0, 0, 0, 0, 0, 0, 0, 0, 0, 0, 0, 0, 0] c) else (qh0 a c)))))], true)) := by kernel_rfl

end Go.Proofs.Ytpjhlkidebcllaa.Fn
