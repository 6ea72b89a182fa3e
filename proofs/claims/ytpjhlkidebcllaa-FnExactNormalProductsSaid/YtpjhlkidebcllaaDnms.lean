/- Schemes of normal products: words. -/
import Derived.Test.YtpjhlkidebcllaaDnrm
namespace Go.Proofs.Ytpjhlkidebcllaa.Fn
open Go Go.Proofs.Ytpjhlkidebcllaa.Abs
set_option linter.unusedVariables false
def okNs (p : Int) (n : Nat) (q : Nat → Nat → Int) : Bool := decide (n ≤ 30) && allN (fun i => okN p (q i)) 0 n
def g_normals : G := fun vs => match vs with
  | [x] => (sch x).map fun a => (okNs a.p a.n a.q, .agg [.int .i64 a.p, .int .i64 a.r, .int .i64 a.m, .int .i64 a.c, .sl 0 0 a.n a.n], [⟨tProduct, 27, .ints .u8 27 a.n fun i => normF a.p (a.q i)⟩])
  | _ => none
def e_normals : Ent := (66, g_normals)
def e_l03AllNormal : Ent := (65, g_normals)
def codeNormalProducts (a : Sch) : Int := bif isB a.p a.r a.m a.c a.n a.q then 0 else 1
def resNormalProducts (a : Sch) : Sch := ⟨a.p, a.r, a.m, a.c, a.n, fun i => normF a.p (a.q i)⟩
def g_normP : List AV → Option Ans := fun vs => match vs with
  | [x] => (sch x).map fun a => sAns false (rngB a.n a.q) (codeNormalProducts a) (resNormalProducts a)
  | _ => none
def ce_specNormalProducts : CEnt := (27, g_normP)
def ce_implNormalProducts : CEnt := (28, g_normP)
end Go.Proofs.Ytpjhlkidebcllaa.Fn
