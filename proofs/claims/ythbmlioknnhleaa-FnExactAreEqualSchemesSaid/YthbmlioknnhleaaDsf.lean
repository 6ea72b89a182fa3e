/- What the library's sort does to a list of products. -/
import Derived.Test.YthbmlioknnhleaaDsort
namespace Go.Proofs.Ythbmlioknnhleaa.Fn
open Go Go.Proofs.Ythbmlioknnhleaa.Abs
set_option linter.unusedVariables false
def m_sort : MEnt := (116, fun vs b => match vs with
  | [.sl 0 0 n t, .fn g []] => some (decide (n = b.n) && decide (t = b.n) && decide (b.n < 4611686018427387904) && decide (b.sz = 27) && decide (b.k = .u8) && decide (g = 117), .tup [], ⟨b.e, b.sz, b.k, b.n, sortQ b.n b.q⟩)
  | _ => none)
end Go.Proofs.Ythbmlioknnhleaa.Fn
