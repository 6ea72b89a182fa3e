/- What functions tell of the equations that do not hold. -/
import Derived.Test.YtjdciikfbinchaaDb
import Derived.Test.YtjdciikfbinchaaDk
namespace Go.Proofs.Ytjdciikfbinchaa.Fn
open Go Go.Proofs.Ytjdciikfbinchaa.Abs
set_option linter.unusedVariables false
/-- does the equation at these places not hold? -/
def wrB (p k c : Int) (n : Nat) (q : Nat → Nat → Int) (a b d : Nat) : Bool := !decide (leftB p n q a b d = wantB k c a b d)
/-- the t-th of all equations -/
def wrT (p r k c : Int) (n : Nat) (q : Nat → Nat → Int) (t : Nat) : Bool := wrB p k c n q (t / (r * c).toNat / (k * c).toNat) (t / (r * c).toNat % (k * c).toNat) (t % (r * c).toNat)
/-- how many do not hold -/
def cntW (p r k c : Int) (n : Nat) (q : Nat → Nat → Int) : Nat := (keepL (wrT p r k c n q) 0 ((r * k).toNat * (k * c).toNat * (r * c).toNat)).length
def wrG (p r k c : Int) (n : Nat) : Bool := !decide (p = 0) && (decide (n ≤ 30) && (sizeB r && (sizeB k && sizeB c)))
def tInts : Nat := 52
def tInt : Nat := 2
def blurK (e n : Nat) : KB := ⟨e, 1, .fn n (fun _ => [.undef])⟩
def e_wrong : Ent := (83, fun vs => match vs with
  | [.agg [.int .i64 p, .int .i64 r, .int .i64 k, .int .i64 c, x]] => (prods x).map fun y => (wrG p r k c y.1, .sl 0 0 (cntW p r k c y.1 y.2) (cntW p r k c y.1 y.2), [blurK tInts (cntW p r k c y.1 y.2)])
  | _ => none)
def three (n : Nat) : Nat := bif decide (n = 0) then 0 else 3
def e_l01Wrong : Ent := (82, fun vs => match vs with
  | [.agg [.int .i64 p, .int .i64 r, .int .i64 k, .int .i64 c, x]] => (prods x).map fun y => (wrG p r k c y.1, .tup [.sl 0 0 (three (cntW p r k c y.1 y.2)) (three (cntW p r k c y.1 y.2)), I (cntW p r k c y.1 y.2 : Nat)], [blurK tInt (three (cntW p r k c y.1 y.2))])
  | _ => none)
def codeIs (p r k c : Int) (n : Nat) (q : Nat → Nat → Int) : Int := bif isB p r k c n q then 0 else 1
def cntV (p r k c : Int) (n : Nat) (q : Nat → Nat → Int) : Int := bif isB p r k c n q then (cntW p r k c n q : Nat) else 0
def corV (p r k c : Int) (n : Nat) (q : Nat → Nat → Int) : Bool := isB p r k c n q && decide (cntW p r k c n q = 0)
def g_cnt : G := fun vs => match vs with
  | [.agg [.int .i64 p, .int .i64 r, .int .i64 k, .int .i64 c, x]] => (prods x).map fun y => (true, .tup [I (cntV p r k c y.1 y.2), I (codeIs p r k c y.1 y.2)], [])
  | _ => none
def g_cor : G := fun vs => match vs with
  | [.agg [.int .i64 p, .int .i64 r, .int .i64 k, .int .i64 c, x]] => (prods x).map fun y => (true, .tup [.bool (corV p r k c y.1 y.2), I (codeIs p r k c y.1 y.2)], [])
  | _ => none
def e_specCountWrong : Ent := (37, g_cnt)
def e_implCountWrong : Ent := (38, g_cnt)
def e_specIsCorrect : Ent := (39, g_cor)
def e_implIsCorrect : Ent := (40, g_cor)
end Go.Proofs.Ytjdciikfbinchaa.Fn
