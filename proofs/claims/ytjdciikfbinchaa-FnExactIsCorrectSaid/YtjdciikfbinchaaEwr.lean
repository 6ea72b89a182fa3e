/- Equations of the abstract machine for some functions and their loops, printed by a program. -/
import Derived.Test.YtjdciikfbinchaaDa
import Derived.Test.YtjdciikfbinchaaDk
import Derived.Test.YtjdciikfbinchaaDb
import Derived.Test.YtjdciikfbinchaaDwr
namespace Go.Proofs.Ytjdciikfbinchaa.Fn
open Go Go.Proofs.Ytjdciikfbinchaa.Abs
set_option maxRecDepth 100000
set_option linter.unusedVariables false
def Swrong_3 (p : Int) (r : Int) (k : Int) (c : Int) (n : Nat) (q : Nat → Nat → Int) (n3 : Nat) (x13 : Int) (fh0 : Nat → List AV) : KS := ⟨[(1, (AV.lptr 1 0)), (3, (AV.sl 0 0 n3 n3)), (4, (AV.lptr 4 0)), (12, I (W (r * k))), (13, I x13)], [(1, [I p, I r, I k, I c, (AV.vi .u8 27 n q)]), (4, [I (W (r * k)), I (W (k * c)), I (W (r * c))])], [(KB.mk 52 1 (KR.fn n3 fh0))], 0, true⟩
noncomputable def Lwrong_3 (p : Int) (r : Int) (k : Int) (c : Int) (n : Nat) (q : Nat → Nat → Int) (N : Nat) (m : Nat) (n3 : Nat) (x13 : Int) (fh0 : Nat → List AV) : R := loopAtH Try.prog (kc (tabOf [e_leftSide, e_rightSide])) 40 (rnd [] 40 N) 83 [] [true, true, false, true, false] [] m (Swrong_3 p r k c n q n3 x13 fh0) done
def Swrong_6 (p : Int) (r : Int) (k : Int) (c : Int) (n : Nat) (q : Nat → Nat → Int) (n3 : Nat) (x5 : Int) (x18 : Int) (fh0 : Nat → List AV) : KS := ⟨[(1, (AV.lptr 1 0)), (3, (AV.sl 0 0 n3 n3)), (4, (AV.lptr 4 0)), (5, I x5), (12, I (W (r * k))), (13, I x5), (17, I (W (k * c))), (18, I x18)], [(1, [I p, I r, I k, I c, (AV.vi .u8 27 n q)]), (4, [I (W (r * k)), I (W (k * c)), I (W (r * c))])], [(KB.mk 52 1 (KR.fn n3 fh0))], 0, true⟩
noncomputable def Lwrong_6 (p : Int) (r : Int) (k : Int) (c : Int) (n : Nat) (q : Nat → Nat → Int) (N : Nat) (m1 : Nat) (m : Nat) (n3 : Nat) (x5 : Int) (x18 : Int) (fh0 : Nat → List AV) : R := loopAtH Try.prog (kc (tabOf [e_leftSide, e_rightSide])) 40 (rnd [] 40 N) 83 [] [true, true, false, true, false, false, true, true, false, false, true, true, false] [m1] m (Swrong_6 p r k c n q n3 x5 x18 fh0) done
def Swrong_9 (p : Int) (r : Int) (k : Int) (c : Int) (n : Nat) (q : Nat → Nat → Int) (n3 : Nat) (x5 : Int) (x6 : Int) (x23 : Int) (fh0 : Nat → List AV) : KS := ⟨[(1, (AV.lptr 1 0)), (3, (AV.sl 0 0 n3 n3)), (4, (AV.lptr 4 0)), (5, I x5), (6, I x6), (12, I (W (r * k))), (13, I x5), (17, I (W (k * c))), (18, I x6), (22, I (W (r * c))), (23, I x23)], [(1, [I p, I r, I k, I c, (AV.vi .u8 27 n q)]), (4, [I (W (r * k)), I (W (k * c)), I (W (r * c))])], [(KB.mk 52 1 (KR.fn n3 fh0))], 0, true⟩
noncomputable def Lwrong_9 (p : Int) (r : Int) (k : Int) (c : Int) (n : Nat) (q : Nat → Nat → Int) (N : Nat) (m1 : Nat) (m2 : Nat) (m : Nat) (n3 : Nat) (x5 : Int) (x6 : Int) (x23 : Int) (fh0 : Nat → List AV) : R := loopAtH Try.prog (kc (tabOf [e_leftSide, e_rightSide])) 40 (rnd [] 40 N) 83 [] [true, true, false, true, false, false, true, true, false, false, true, true, false, false, true, true, false, false, true, true, false] [m1, m2] m (Swrong_9 p r k c n q n3 x5 x6 x23 fh0) done
theorem swrong (p : Int) (r : Int) (k : Int) (c : Int) (n : Nat) (q : Nat → Nat → Int) (N : Nat) : fnK Try.prog (kc (tabOf [e_leftSide, e_rightSide])) 40 (rnd [] 40 N) 83 [.agg [I p, I r, I k, I c, .vi .u8 27 n q]]  done =
    (Lwrong_3 p r k c n q N N 0 0 (fun a => [])) := by kernel_rfl
theorem rwrong_3 (p : Int) (r : Int) (k : Int) (c : Int) (n : Nat) (q : Nat → Nat → Int) (N : Nat) (m : Nat) (n3 : Nat) (x13 : Int) (fh0 : Nat → List AV) : Lwrong_3 p r k c n q N  (m + 1) n3 x13 fh0 =
    (bif (decide (x13 < (W (r * k)))) then (Lwrong_6 p r k c n q N m N n3 x13 0 fh0) else
    chk (List.all (List.map fh0 (List.range n3)) (fun row => (List.all row bareV))) <|
    some ((AV.sl 0 0 n3 n3), [(KB.mk 52 1 (KR.fn n3 fh0))], true)) := by kernel_rfl
theorem rwrong_6 (p : Int) (r : Int) (k : Int) (c : Int) (n : Nat) (q : Nat → Nat → Int) (N : Nat) (m1 : Nat) (m : Nat) (n3 : Nat) (x5 : Int) (x18 : Int) (fh0 : Nat → List AV) : Lwrong_6 p r k c n q N m1 (m + 1) n3 x5 x18 fh0 =
    (bif (decide (x18 < (W (k * c)))) then (Lwrong_9 p r k c n q N m1 m N n3 x5 x18 0 fh0) else
    Lwrong_3 p r k c n q N m1 n3 (W (x5 + 1)) fh0) := by kernel_rfl
theorem rwrong_9 (p : Int) (r : Int) (k : Int) (c : Int) (n : Nat) (q : Nat → Nat → Int) (N : Nat) (m1 : Nat) (m2 : Nat) (m : Nat) (n3 : Nat) (x5 : Int) (x6 : Int) (x23 : Int) (fh0 : Nat → List AV) : Lwrong_9 p r k c n q N m1 m2 (m + 1) n3 x5 x6 x23 fh0 =
    (bif (decide (x23 < (W (r * c)))) then (chk ((!(decide (p = 0))) && ((decide (n ≤ 30)) && ((inR x5 9) && ((inR x6 9) && (inR x23 9))))) <|
      chk ((!(decide (k = 0))) && (!(decide (c = 0)))) <|
      bif (!(decide ((leftB p n q x5 x6 x23) = (wantB k c x5 x6 x23)))) then (chk (n3 == n3) <|
        chk (decide ((n3 + 1) ≤ 4294967296)) <|
        chk (decide (n3 = n3)) <|
        Lwrong_9 p r k c n q N m1 m2 m (n3 + 1) x5 x6 (W (x23 + 1)) (fun a => (selL (decide (a < n3)) (fh0 a) [(AV.vs 1 [[(AV.int IntKind.i64 x5)], [(AV.int IntKind.i64 x6)], [(AV.int IntKind.i64 x23)]])]))) else
      Lwrong_9 p r k c n q N m1 m2 m n3 x5 x6 (W (x23 + 1)) fh0) else
    Lwrong_6 p r k c n q N m1 m2 n3 x5 (W (x6 + 1)) fh0) := by kernel_rfl

def Sl01Wrong_4 (p : Int) (r : Int) (k : Int) (c : Int) (n : Nat) (q : Nat → Nat → Int) (n7 : Nat) (x8 : Int) (x9 : Int) (qh0 : Nat → Nat → Int) : KS := ⟨[(1, (AV.lptr 1 0)), (4, I (W (r * k))), (5, I (W (k * c))), (6, I (W (r * c))), (7, (AV.sl 0 0 n7 n7)), (8, I x8), (9, I x9)], [(1, [I p, I r, I k, I c, (AV.vi .u8 27 n q)])], [(KB.mk 2 1 (KR.ints .i64 1 n7 qh0))], 0, true⟩
noncomputable def Ll01Wrong_4 (p : Int) (r : Int) (k : Int) (c : Int) (n : Nat) (q : Nat → Nat → Int) (N : Nat) (m : Nat) (n7 : Nat) (x8 : Int) (x9 : Int) (qh0 : Nat → Nat → Int) : R := loopAtH Try.prog (kc (tabOf [e_l01Sum, e_l01Want])) 40 (rnd [] 40 N) 82 [] [true, true, true, false, true, false] [] m (Sl01Wrong_4 p r k c n q n7 x8 x9 qh0) done
def Sl01Wrong_7 (p : Int) (r : Int) (k : Int) (c : Int) (n : Nat) (q : Nat → Nat → Int) (n7 : Nat) (x8 : Int) (x9 : Int) (x10 : Int) (qh0 : Nat → Nat → Int) : KS := ⟨[(1, (AV.lptr 1 0)), (4, I (W (r * k))), (5, I (W (k * c))), (6, I (W (r * c))), (7, (AV.sl 0 0 n7 n7)), (8, I x8), (9, I x9), (10, I x10)], [(1, [I p, I r, I k, I c, (AV.vi .u8 27 n q)])], [(KB.mk 2 1 (KR.ints .i64 1 n7 qh0))], 0, true⟩
noncomputable def Ll01Wrong_7 (p : Int) (r : Int) (k : Int) (c : Int) (n : Nat) (q : Nat → Nat → Int) (N : Nat) (m1 : Nat) (m : Nat) (n7 : Nat) (x8 : Int) (x9 : Int) (x10 : Int) (qh0 : Nat → Nat → Int) : R := loopAtH Try.prog (kc (tabOf [e_l01Sum, e_l01Want])) 40 (rnd [] 40 N) 82 [] [true, true, true, false, true, false, false, true, false, false, true, false] [m1] m (Sl01Wrong_7 p r k c n q n7 x8 x9 x10 qh0) done
def Sl01Wrong_10 (p : Int) (r : Int) (k : Int) (c : Int) (n : Nat) (q : Nat → Nat → Int) (n7 : Nat) (x8 : Int) (x9 : Int) (x10 : Int) (x11 : Int) (qh0 : Nat → Nat → Int) : KS := ⟨[(1, (AV.lptr 1 0)), (4, I (W (r * k))), (5, I (W (k * c))), (6, I (W (r * c))), (7, (AV.sl 0 0 n7 n7)), (8, I x8), (9, I x9), (10, I x10), (11, I x11)], [(1, [I p, I r, I k, I c, (AV.vi .u8 27 n q)])], [(KB.mk 2 1 (KR.ints .i64 1 n7 qh0))], 0, true⟩
noncomputable def Ll01Wrong_10 (p : Int) (r : Int) (k : Int) (c : Int) (n : Nat) (q : Nat → Nat → Int) (N : Nat) (m1 : Nat) (m2 : Nat) (m : Nat) (n7 : Nat) (x8 : Int) (x9 : Int) (x10 : Int) (x11 : Int) (qh0 : Nat → Nat → Int) : R := loopAtH Try.prog (kc (tabOf [e_l01Sum, e_l01Want])) 40 (rnd [] 40 N) 82 [] [true, true, true, false, true, false, false, true, false, false, true, false, false, true, false, false, true, false] [m1, m2] m (Sl01Wrong_10 p r k c n q n7 x8 x9 x10 x11 qh0) done
theorem sl01Wrong (p : Int) (r : Int) (k : Int) (c : Int) (n : Nat) (q : Nat → Nat → Int) (N : Nat) : fnK Try.prog (kc (tabOf [e_l01Sum, e_l01Want])) 40 (rnd [] 40 N) 82 [.agg [I p, I r, I k, I c, .vi .u8 27 n q]]  done =
    (Ll01Wrong_4 p r k c n q N N 0 0 0 (nthR [])) := by kernel_rfl
theorem rl01Wrong_4 (p : Int) (r : Int) (k : Int) (c : Int) (n : Nat) (q : Nat → Nat → Int) (N : Nat) (m : Nat) (n7 : Nat) (x8 : Int) (x9 : Int) (qh0 : Nat → Nat → Int) : Ll01Wrong_4 p r k c n q N  (m + 1) n7 x8 x9 qh0 =
    (bif (decide (x9 < (W (r * k)))) then (Ll01Wrong_7 p r k c n q N m N n7 x8 x9 0 qh0) else
    some ((AV.tup [(AV.sl 0 0 n7 n7), I x8]), [(KB.mk 2 1 (KR.ints .i64 1 n7 qh0))], true)) := by kernel_rfl
theorem rl01Wrong_7 (p : Int) (r : Int) (k : Int) (c : Int) (n : Nat) (q : Nat → Nat → Int) (N : Nat) (m1 : Nat) (m : Nat) (n7 : Nat) (x8 : Int) (x9 : Int) (x10 : Int) (qh0 : Nat → Nat → Int) : Ll01Wrong_7 p r k c n q N m1 (m + 1) n7 x8 x9 x10 qh0 =
    (bif (decide (x10 < (W (k * c)))) then (Ll01Wrong_10 p r k c n q N m1 m N n7 x8 x9 x10 0 qh0) else
    Ll01Wrong_4 p r k c n q N m1 n7 x8 (W (x9 + 1)) qh0) := by kernel_rfl
theorem rl01Wrong_10 (p : Int) (r : Int) (k : Int) (c : Int) (n : Nat) (q : Nat → Nat → Int) (N : Nat) (m1 : Nat) (m2 : Nat) (m : Nat) (n7 : Nat) (x8 : Int) (x9 : Int) (x10 : Int) (x11 : Int) (qh0 : Nat → Nat → Int) : Ll01Wrong_10 p r k c n q N m1 m2 (m + 1) n7 x8 x9 x10 x11 qh0 =
    (bif (decide (x11 < (W (r * c)))) then (chk ((!(decide (p = 0))) && ((decide (n ≤ 30)) && ((inR x9 9) && ((inR x10 9) && (inR x11 9))))) <|
      chk ((!(decide (k = 0))) && (!(decide (c = 0)))) <|
      bif (decide ((leftB p n q x9 x10 x11) = (wantB k c x9 x10 x11))) then (Ll01Wrong_10 p r k c n q N m1 m2 m n7 x8 x9 x10 (W (x11 + 1)) qh0) else
      bif (decide (x8 = 0)) then (chk (n7 == n7) <|
        chk (decide ((n7 + 3) ≤ 4294967296)) <|
        chk (decide (n7 = n7)) <|
        Ll01Wrong_10 p r k c n q N m1 m2 m (n7 + 3) (W (x8 + 1)) x9 x10 (W (x11 + 1)) (fun a c1 => (bif (decide (a < n7)) then (qh0 a c1) else (nthR [[x9], [x10], [x11]] (a - n7) c1)))) else
      Ll01Wrong_10 p r k c n q N m1 m2 m n7 (W (x8 + 1)) x9 x10 (W (x11 + 1)) qh0) else
    Ll01Wrong_7 p r k c n q N m1 m2 n7 x8 x9 (W (x10 + 1)) qh0) := by kernel_rfl

theorem simplCnt (p : Int) (r : Int) (k : Int) (c : Int) (n : Nat) (q : Nat → Nat → Int) (N : Nat) : fnK Try.prog (kc (tabOf [e_IsScheme, e_wrong])) 40 (rnd [] 40 N) 38 [.agg [I p, I r, I k, I c, .vi .u8 27 n q]]  done =
    (bif (!(isB p r k c n q)) then (some ((AV.tup [I 0, I 1]), [], true)) else
    chk (wrG p r k c n) <|
    chk ((cntW p r k c n q) == (cntW p r k c n q)) <|
    some ((AV.tup [I (((cntW p r k c n q) : Nat) : Int), I 0]), [], true)) := by kernel_rfl

theorem sspecCnt (p : Int) (r : Int) (k : Int) (c : Int) (n : Nat) (q : Nat → Nat → Int) (N : Nat) : fnK Try.prog (kc (tabOf [e_l01Is, e_l01Wrong])) 40 (rnd [] 40 N) 37 [.agg [I p, I r, I k, I c, .vi .u8 27 n q]]  done =
    (bif (!(isB p r k c n q)) then (some ((AV.tup [I 0, I 1]), [], true)) else
    chk (wrG p r k c n) <|
    some ((AV.tup [I (((cntW p r k c n q) : Nat) : Int), I 0]), [], true)) := by kernel_rfl

theorem simplCor (p : Int) (r : Int) (k : Int) (c : Int) (n : Nat) (q : Nat → Nat → Int) (N : Nat) : fnK Try.prog (kc (tabOf [e_IsScheme, e_wrong])) 40 (rnd [] 40 N) 40 [.agg [I p, I r, I k, I c, .vi .u8 27 n q]]  done =
    (bif (!(isB p r k c n q)) then (some ((AV.tup [(AV.bool false), I 1]), [], true)) else
    chk (wrG p r k c n) <|
    chk ((cntW p r k c n q) == (cntW p r k c n q)) <|
    some ((AV.tup [(AV.bool (decide ((((cntW p r k c n q) : Nat) : Int) = 0))), I 0]), [], true)) := by kernel_rfl

theorem sspecCor (p : Int) (r : Int) (k : Int) (c : Int) (n : Nat) (q : Nat → Nat → Int) (N : Nat) : fnK Try.prog (kc (tabOf [e_l01Is, e_l01Wrong])) 40 (rnd [] 40 N) 39 [.agg [I p, I r, I k, I c, .vi .u8 27 n q]]  done =
    (bif (!(isB p r k c n q)) then (some ((AV.tup [(AV.bool false), I 1]), [], true)) else
    chk (wrG p r k c n) <|
    some ((AV.tup [(AV.bool (decide ((((cntW p r k c n q) : Nat) : Int) = 0))), I 0]), [], true)) := by kernel_rfl







end Go.Proofs.Ytjdciikfbinchaa.Fn
