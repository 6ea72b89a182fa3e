/- What WithoutProduct tells. -/
import Derived.Test.YtjdciikfbinchaaDg
namespace Go.Proofs.Ytjdciikfbinchaa.Fn
open Go Go.Proofs.Ytjdciikfbinchaa.Abs
/-- the rows but the i-th -/
def withoutQ (i : Nat) (q : Nat → Nat → Int) : Nat → Nat → Int := fun a c => bif decide (a < i) then q a c else q (a + 1) c
def codeWithoutProduct (a : Sch) (i : Int) : Int := bif isB a.p a.r a.m a.c a.n a.q then (bif decide (0 ≤ i) && decide (i < a.n) then 0 else 2) else 1
def resWithoutProduct (a : Sch) (i : Int) : Sch := ⟨a.p, a.r, a.m, a.c, a.n - 1, withoutQ i.toNat a.q⟩
def g_without (nil : Bool) : List AV → Option Ans := fun vs => match vs with
  | [x, .int .i64 i] => (sch x).map fun a => sAns nil true (codeWithoutProduct a i) (resWithoutProduct a i)
  | _ => none
def ce_specWithoutProduct : CEnt := (51, g_without false)
def ce_implWithoutProduct : CEnt := (52, g_without true)
end Go.Proofs.Ytjdciikfbinchaa.Fn
