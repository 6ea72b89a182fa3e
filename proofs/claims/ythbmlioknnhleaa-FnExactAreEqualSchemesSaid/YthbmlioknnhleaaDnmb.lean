/- Schemes of normal products: words. -/
import Derived.Test.YthbmlioknnhleaaDnrm
namespace Go.Proofs.Ythbmlioknnhleaa.Fn
open Go Go.Proofs.Ythbmlioknnhleaa.Abs
set_option linter.unusedVariables false
def okNs (p : Int) (n : Nat) (q : Nat → Nat → Int) : Bool := decide (n ≤ 30) && allN (fun i => okN p (q i)) 0 n
def g_normals : G := fun vs => match vs with
  | [x] => (sch x).map fun a => (okNs a.p a.n a.q, .agg [.int .i64 a.p, .int .i64 a.r, .int .i64 a.m, .int .i64 a.c, .sl 0 0 a.n a.n], [⟨tProduct, 27, .ints .u8 27 a.n fun i => normF a.p (a.q i)⟩])
  | _ => none
def e_normals : Ent := (65, g_normals)
def e_l03AllNormal : Ent := (72, g_normals)
end Go.Proofs.Ythbmlioknnhleaa.Fn
