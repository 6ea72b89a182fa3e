/- What AreEqualSchemes tells. -/
import Derived.Test.YthbmlioknnhleaaDsc
namespace Go.Proofs.Ythbmlioknnhleaa.Fn
open Go Go.Proofs.Ythbmlioknnhleaa.Abs
set_option linter.unusedVariables false
/-- two products, two lists of products: are they equal? -/
def eqP (f g : Nat → Int) : Bool := decide (intsFrom f 0 27 = intsFrom g 0 27)
def eqL (n : Nat) (q : Nat → Nat → Int) (m : Nat) (q' : Nat → Nat → Int) : Bool := decide (n = m) && allN (fun i => eqP (q i) (q' i)) 0 n
def e_equalPs : Ent := (74, fun vs => match vs with
  | [.vi .u8 27 n q, .vi .u8 27 m q'] => some (decide (n ≤ 30), .bool (eqL n q m q'), [])
  | _ => none)
def sameB (a b : Sch) : Bool := decide (a.p = b.p) && (decide (a.r = b.r) && (decide (a.m = b.m) && decide (a.c = b.c)))
def codeAe (a b : Sch) : Int := bif isB a.p a.r a.m a.c a.n a.q && isB b.p b.r b.m b.c b.n b.q then (bif sameB a b then 0 else 2) else 1
def aeV (a b : Sch) : Bool := bif decide (codeAe a b = 0) then eqL a.n (sortQ a.n fun i => normF a.p (a.q i)) b.n (sortQ b.n fun i => normF b.p (b.q i)) else false
def g_ae : G := fun vs => match vs with
  | [x, y] => (sch x).bind fun a => (sch y).map fun b => (rngB a.n a.q && rngB b.n b.q, .tup [.bool (aeV a b), .int .i64 (codeAe a b)], [])
  | _ => none
def e_specAe : Ent := (34, g_ae)
def e_implAe : Ent := (35, g_ae)
end Go.Proofs.Ythbmlioknnhleaa.Fn
