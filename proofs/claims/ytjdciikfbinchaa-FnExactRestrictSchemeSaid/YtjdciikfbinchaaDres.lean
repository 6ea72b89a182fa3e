/- What RestrictScheme tells. -/
import Derived.Test.YtjdciikfbinchaaDk
import Derived.Test.YtjdciikfbinchaaDcut
namespace Go.Proofs.Ytjdciikfbinchaa.Fn
open Go Go.Proofs.Ytjdciikfbinchaa.Abs
/-- the first rows and columns of a product's forms -/
def restF (m c : Int) (n' m' k' : Int) (f : Nat → Int) : Nat → Int := prodQ (cutQ m.toNat n'.toNat m'.toNat (pA f)) (cutQ c.toNat m'.toNat k'.toNat (pB f)) (cutQ c.toNat n'.toNat k'.toNat (pC f))
def restB (m c : Int) (n' m' k' : Int) (f : Nat → Int) : Bool := !zero9 (cutQ m.toNat n'.toNat m'.toNat (pA f)) && (!zero9 (cutQ c.toNat m'.toNat k'.toNat (pB f)) && !zero9 (cutQ c.toNat n'.toNat k'.toNat (pC f)))
def restL (a : Sch) (n' m' k' : Int) : List Nat := keepL (fun i => restB a.m a.c n' m' k' (a.q i)) 0 a.n
def codeRestrictScheme (a : Sch) (n' m' k' : Int) : Int := bif isB a.p a.r a.m a.c a.n a.q then (bif (decide (1 ≤ n') && decide (n' ≤ a.r)) && ((decide (1 ≤ m') && decide (m' ≤ a.m)) && (decide (1 ≤ k') && decide (k' ≤ a.c))) then 0 else 2) else 1
def resRestrictScheme (a : Sch) (n' m' k' : Int) : Sch := ⟨a.p, n', m', k', (restL a n' m' k').length, fun i c => restF a.m a.c n' m' k' (a.q ((restL a n' m' k').getD i 0)) c⟩
def g_restrict : List AV → Option Ans := fun vs => match vs with
  | [x, .int .i64 n', .int .i64 m', .int .i64 k'] => (sch x).map fun a => sAns true true (codeRestrictScheme a n' m' k') (resRestrictScheme a n' m' k')
  | _ => none
def ce_specRestrictScheme : CEnt := (49, g_restrict)
def ce_implRestrictScheme : CEnt := (50, g_restrict)
end Go.Proofs.Ytjdciikfbinchaa.Fn
