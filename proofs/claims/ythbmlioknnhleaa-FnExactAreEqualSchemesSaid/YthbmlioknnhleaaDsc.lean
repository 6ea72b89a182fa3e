/- What ScaledScheme and AreEqualSchemes tell. -/
import Derived.Test.YthbmlioknnhleaaDss
import Derived.Test.YthbmlioknnhleaaDnmb
namespace Go.Proofs.Ythbmlioknnhleaa.Fn
open Go Go.Proofs.Ythbmlioknnhleaa.Abs
set_option linter.unusedVariables false
def e_l04First : Ent := (76, g_lead)
def codeScaledScheme (a : Sch) : Int := bif isB a.p a.r a.m a.c a.n a.q then 0 else 1
def resScaledScheme (a : Sch) : Sch := ⟨a.p, a.r, a.m, a.c, a.n, sortQ a.n fun i => normF a.p (a.q i)⟩
def g_scaled : List AV → Option Ans := fun vs => match vs with
  | [x] => (sch x).map fun a => sAns false (rngB a.n a.q) (codeScaledScheme a) (resScaledScheme a)
  | _ => none
def ce_specScaledScheme : CEnt := (36, g_scaled)
def ce_implScaledScheme : CEnt := (37, g_scaled)
end Go.Proofs.Ythbmlioknnhleaa.Fn
