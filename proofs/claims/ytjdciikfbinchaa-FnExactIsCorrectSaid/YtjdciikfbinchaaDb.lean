/- What functions tell: the sides of an equation. -/
import Derived.Test.YtjdciikfbinchaaDa
namespace Go.Proofs.Ytjdciikfbinchaa.Fn
open Go Go.Proofs.Ytjdciikfbinchaa.Abs
set_option linter.unusedVariables false

def inR (a n : Int) : Bool := decide (0 ≤ a) && decide (a < n)
/-- the code of a scheme and places -/
def codeB (is : Bool) (r k c a b d : Int) : Int := bif is then (bif inR a (W (r * k)) && (inR b (W (k * c)) && inR d (W (r * c))) then 0 else 2) else 1
def e_l01Places : Ent := (76, fun vs => match vs with
  | [.agg [.int .i64 p, .int .i64 r, .int .i64 k, .int .i64 c, x], .int .i64 a, .int .i64 b, .int .i64 d] => (prods x).map fun y => (decide (in64 a) && (decide (in64 b) && decide (in64 d)), .int .i64 (codeB (isB p r k c y.1 y.2) r k c a b d), [])
  | _ => none)
def e_equationCode : Ent := (78, fun vs => match vs with
  | [.agg [.int .i64 p, .int .i64 r, .int .i64 k, .int .i64 c, x], .vs 1 [[.int .i64 a], [.int .i64 b], [.int .i64 d]]] => (prods x).map fun y => (true, .int .i64 (codeB (isB p r k c y.1 y.2) r k c a b d), [])
  | _ => none)
/-- the right side -/
def wantB (k c a b d : Int) : Int := bif decide (Int.tmod a k = W (Int.tdiv b c)) && (decide (W (Int.tdiv a k) = W (Int.tdiv d c)) && decide (Int.tmod b c = Int.tmod d c)) then 1 else 0
def g_want : G := fun vs => match vs with
  | [.agg [.int .i64 p, .int .i64 r, .int .i64 k, .int .i64 c, x], .int .i64 a, .int .i64 b, .int .i64 d] => (prods x).map fun _ => (!decide (k = 0) && !decide (c = 0), .int .i64 (wantB k c a b d), [])
  | _ => none
def e_l01Want : Ent := (77, g_want)
def e_rightSide : Ent := (79, g_want)
/-- the left side, over d products from the i-th on -/
def sumL (q : Nat → Nat → Int) (a b c : Nat) : Nat → Nat → Int → Int
  | _, 0, s => s
  | i, m + 1, s => sumL q a b c (i + 1) m (W (s + W (W (W (q i a) * W (q i (9 + b))) * W (q i (18 + c)))))
def leftB (p : Int) (n : Nat) (q : Nat → Nat → Int) (a b c : Int) : Int := Int.tmod (sumL q a.toNat b.toNat c.toNat 0 n 0) p
def g_left : G := fun vs => match vs with
  | [.agg [.int .i64 p, .int .i64 r, .int .i64 k, .int .i64 c, x], .int .i64 a, .int .i64 b, .int .i64 d] => (prods x).map fun y =>
      (!decide (p = 0) && (decide (y.1 ≤ 30) && (inR a 9 && (inR b 9 && inR d 9))), .int .i64 (leftB p y.1 y.2 a b d), [])
  | _ => none
def e_l01Sum : Ent := (80, g_left)
def e_leftSide : Ent := (81, g_left)
end Go.Proofs.Ytjdciikfbinchaa.Fn
