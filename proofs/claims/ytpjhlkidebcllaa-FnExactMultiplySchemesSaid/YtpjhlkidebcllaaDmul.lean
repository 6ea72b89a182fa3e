/- What MultiplySchemes tells. -/
import Derived.Test.YtpjhlkidebcllaaDkron
namespace Go.Proofs.Ytpjhlkidebcllaa.Fn
open Go Go.Proofs.Ytpjhlkidebcllaa.Abs
set_option linter.unusedVariables false
def mulF (p r k c r' k' c' : Int) (f g : Nat → Int) : Nat → Int := prodQ (kronQ p r.toNat k.toNat r'.toNat k'.toNat (pA f) (pA g)) (kronQ p k.toNat c.toNat k'.toNat c'.toNat (pB f) (pB g)) (kronQ p r.toNat c.toNat r'.toNat c'.toNat (pC f) (pC g))
def mulOk (a b : Sch) : Bool := decide (a.r * b.r ≤ 3) && (decide (a.m * b.m ≤ 3) && (decide (a.c * b.c ≤ 3) && decide (a.n * b.n ≤ 30)))
def codeMultiplySchemes (a b : Sch) : Int := bif isB a.p a.r a.m a.c a.n a.q && isB b.p b.r b.m b.c b.n b.q then (bif decide (a.p = b.p) then (bif mulOk a b then 0 else 3) else 2) else 1
def resMultiplySchemes (a b : Sch) : Sch := ⟨a.p, a.r * b.r, a.m * b.m, a.c * b.c, a.n * b.n, fun i => mulF a.p a.r a.m a.c b.r b.m b.c (a.q (i / b.n)) (b.q (i % b.n))⟩
def g_mul : List AV → Option Ans := fun vs => match vs with
  | [x, y] => (sch x).bind fun a => (sch y).map fun b => sAns true (rngB a.n a.q && rngB b.n b.q) (codeMultiplySchemes a b) (resMultiplySchemes a b)
  | _ => none
def ce_specMultiplySchemes : CEnt := (24, g_mul)
def ce_implMultiplySchemes : CEnt := (25, g_mul)
end Go.Proofs.Ytpjhlkidebcllaa.Fn
