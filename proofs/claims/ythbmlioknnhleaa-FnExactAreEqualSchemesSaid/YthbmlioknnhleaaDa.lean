/- What functions tell: forms, products, schemes. -/
import Derived.Test.YthbmlioknnhleaaPre
namespace Go.Proofs.Ythbmlioknnhleaa.Fn
open Go Go.Proofs.Ythbmlioknnhleaa.Abs
set_option linter.unusedVariables false

/-- the form's number at a place is one modulo p, and 0 from n on -/
def okAt (p n : Int) (q : Nat → Int) (i : Nat) : Bool := !(decide (p ≤ W (q i)) || (decide (n ≤ (i : Int)) && !decide (q i = 0)))
def formB (p n : Int) (q : Nat → Int) : Bool := allN (okAt p n q) 0 9
def e_isForm : Ent := (141, fun vs => match vs with
  | [.int .i64 p, .int .i64 n, .agg cs] => (u8s 9 cs).map fun l => (true, .bool (formB p n (nthI l)), [])
  | _ => none)
def e_l01Form : Ent := (137, fun vs => match vs with
  | [.int .i64 p, .agg cs, .int .i64 n] => (u8s 9 cs).map fun l => (true, .bool (formB p n (nthI l)), [])
  | _ => none)
def at9 (i : Nat) (q : Nat → Int) : Nat → Int := fun j => q (i + j)
/-- a product for so many places -/
def prodB (p a b c : Int) (q : Nat → Int) : Bool := (formB p a q && (formB p b (at9 9 q) && formB p c (at9 18 q))) && !(zero9 q || (zero9 (at9 9 q) || zero9 (at9 18 q)))
/-- the products of a scheme, frozen -/
def prods : AV → Option (Nat × (Nat → Nat → Int))
  | .vi .u8 27 n q => some (n, q)
  | .nilsl | .esl => some (0, fun _ _ => 1)
  | _ => none
def e_l01Product : Ent := (103, fun vs => match vs with
  | [.agg [.int .i64 p, .int .i64 r, .int .i64 m, .int .i64 c, x], .agg cs] => (prods x).bind fun _ => (u8s 27 cs).map fun l => (true, .bool (prodB p (W (r * m)) (W (m * c)) (W (r * c)) (nthI l)), [])
  | _ => none)
def e_isProduct : Ent := (105, fun vs => match vs with
  | [.int .i64 p, .agg [.int .i64 a, .int .i64 b, .int .i64 c], .agg cs] => (u8s 27 cs).map fun l => (true, .bool (prodB p a b c (nthI l)), [])
  | _ => none)
def primeB (p : Int) : Bool := decide (p = 2) || (decide (p = 3) || decide (p = 5))
def sizeB (n : Int) : Bool := decide (1 ≤ n) && decide (n ≤ 3)
def sizesB (p n m k : Int) : Bool := primeB p && (sizeB n && (sizeB m && sizeB k))
def e_l01Sizes : Ent := (102, fun vs => match vs with
  | [.int .i64 p, .int .i64 n, .int .i64 m, .int .i64 k] => some (true, .bool (sizesB p n m k), [])
  | _ => none)
def e_isPrime : Ent := (93, fun vs => match vs with
  | [.int .i64 p] => some (true, .bool (primeB p), [])
  | _ => none)
def e_isSize : Ent := (94, fun vs => match vs with
  | [.vs 1 [[.int .i64 n], [.int .i64 m], [.int .i64 k]]] => some (true, .bool (sizeB n && (sizeB m && sizeB k)), [])
  | _ => none)
/-- is it a scheme? -/
def isB (p r m c : Int) (n : Nat) (q : Nat → Nat → Int) : Bool := sizesB p r m c && (decide (n ≤ 30) && allN (fun i => prodB p (W (r * m)) (W (m * c)) (W (r * c)) (q i)) 0 n)
def g_is : G := fun vs => match vs with
  | [.agg [.int .i64 p, .int .i64 r, .int .i64 m, .int .i64 c, x]] => (prods x).map fun y => (true, .bool (isB p r m c y.1 y.2), [])
  | _ => none
def e_l01Is : Ent := (57, g_is)
def e_IsScheme : Ent := (60, g_is)
def eq9 (x y : Nat → Int) : Bool := allN (fun i => decide (x i = y i)) 0 9
def e_eqForm : Ent := (143, fun vs => match vs with
  | [.agg xs, .agg ys] => (u8s 9 xs).bind fun l => (u8s 9 ys).map fun l' => (true, .bool (eq9 (nthI l) (nthI l')), [])
  | _ => none)
def eq27 (x y : Nat → Int) : Bool := eq9 x y && (eq9 (at9 9 x) (at9 9 y) && eq9 (at9 18 x) (at9 18 y))
def eqPs (n : Nat) (x : Nat → Nat → Int) (n' : Nat) (y : Nat → Nat → Int) : Bool := decide (n = n') && allN (fun i => eq27 (x i) (y i)) 0 n
def e_eqProductS : Ent := (62, fun vs => match vs with
  | [x, y] => (prods x).bind fun a => (prods y).bind fun b => some (decide (a.1 ≤ 1048576), .bool (eqPs a.1 a.2 b.1 b.2), [])
  | _ => none)
/-- the type of a product's slice's element, in this program -/
def tProduct : Nat := 63
def e_toProductS : Ent := (59, fun vs => match vs with
  | [x] => (prods x).map fun a => (decide (a.1 ≤ 1048576), .sl 0 0 a.1 a.1, [⟨tProduct, 27, .ints .u8 27 a.1 a.2⟩])
  | _ => none)
/-- what a mark leaves -/
def markQ (s : Int) (a c : Nat) : Int := IntKind.u8.wrap (s + 27 * a + c)
def m_markProductS : MEnt := (63, fun vs b => match vs with
  | [.sl 0 0 n t, .int .i64 s] => some (decide (n = b.n) && (decide (t = b.n) && (decide (b.e = tProduct) && (decide (b.sz = 27) && (decide (b.k = .u8) && (decide (b.n ≤ 1048576) && (decide (0 ≤ s) && decide (s ≤ 1099511627776))))))), .int .i64 (s + 27 * b.n), ⟨b.e, b.sz, b.k, b.n, markQ s⟩)
  | _ => none)
/-- is it as the mark left it? -/
def heldB (s : Int) (n : Nat) (q : Nat → Nat → Int) : Bool := allN (fun i => allN (fun j => decide (q i j = markQ s i j)) 0 27) 0 n
def e_heldProductS : Ent := (68, fun vs => match vs with
  | [x, .int .i64 s] => (prods x).map fun a => (decide (a.1 ≤ 1048576) && (decide (0 ≤ s) && decide (s ≤ 1099511627776)), .int .i64 (bif heldB s a.1 a.2 then s + 27 * a.1 else -1), [])
  | _ => none)
end Go.Proofs.Ythbmlioknnhleaa.Fn
