/- What functions tell of the order of products, and of sorted schemes. -/
import Derived.Test.YthbmlioknnhleaaDk
namespace Go.Proofs.Ythbmlioknnhleaa.Fn
open Go Go.Proofs.Ythbmlioknnhleaa.Abs
set_option linter.unusedVariables false
/-- cells from i on, d of them: does x come before y? -/
def lexF (x y : Nat → Int) : Nat → Nat → Bool
  | _, 0 => false
  | i, d + 1 => bif decide (x i = y i) then lexF x y (i + 1) d else decide (x i < y i)
def lessP (x y : Nat → Int) : Bool := lexF x y 0 27
def e_l01Less : Ent := (114, fun vs => match vs with
  | [.agg xs, .agg ys] => (u8s 27 xs).bind fun l => (u8s 27 ys).map fun l' => (true, .bool (lessP (nthI l) (nthI l')), [])
  | _ => none)
/-- where the i-th is put into a list of others: before the first that it comes before -/
def posL (q : Nat → Nat → Int) (i : Nat) : List Nat → Nat
  | [] => 0
  | j :: l => bif lessP (q i) (q j) then 0 else posL q i l + 1
def insL (q : Nat → Nat → Int) (i : Nat) (L : List Nat) : List Nat := L.take (posL q i L) ++ i :: L.drop (posL q i L)
/-- the first n, sorted -/
def sortL (q : Nat → Nat → Int) : Nat → List Nat
  | 0 => []
  | n + 1 => insL q n (sortL q n)
def sortQ (n : Nat) (q : Nat → Nat → Int) : Nat → Nat → Int := fun a => q ((sortL q n).getD a 0)
def e_l01Sorted : Ent := (69, fun vs => match vs with
  | [.agg [.int .i64 p, .int .i64 r, .int .i64 k, .int .i64 c, x]] => (prods x).map fun y => (decide (y.1 ≤ 30), .agg [.int .i64 p, .int .i64 r, .int .i64 k, .int .i64 c, .sl 0 0 y.1 y.1], [⟨tProduct, 27, .ints .u8 27 y.1 (sortQ y.1 y.2)⟩])
  | _ => none)
def cmpI (a b : Int) : Int := bif decide (a < b) then -1 else bif decide (b < a) then 1 else 0
def e_cmpByte : Ent := (179, fun vs => match vs with
  | [.int .u8 a, .int .u8 b] => some (true, .int .i64 (cmpI a b), [])
  | _ => none)
/-- cells from i on, d of them, compared -/
def cmpF (x y : Nat → Int) : Nat → Nat → Int
  | _, 0 => 0
  | i, d + 1 => bif !decide (cmpI (x i) (y i) = 0) then cmpI (x i) (y i) else cmpF x y (i + 1) d
def e_cmpBytes : Ent := (153, fun vs => match vs with
  | [.vi .u8 1 n q, .vi .u8 1 m q'] => some (decide (n = 9) && decide (m = 9), .int .i64 (cmpF (fun i => q i 0) (fun i => q' i 0) 0 9), [])
  | _ => none)
def cmpP (x y : Nat → Int) : Int := cmpF x y 0 27
def e_compare : Ent := (117, fun vs => match vs with
  | [.agg xs, .agg ys] => (u8s 27 xs).bind fun l => (u8s 27 ys).map fun l' => (true, .int .i64 (cmpP (nthI l) (nthI l')), [])
  | _ => none)
end Go.Proofs.Ythbmlioknnhleaa.Fn
