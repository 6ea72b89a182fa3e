/- What the sorting of schemes tells. -/
import Derived.Test.YthbmlioknnhleaaDg
import Derived.Test.YthbmlioknnhleaaDsort
namespace Go.Proofs.Ythbmlioknnhleaa.Fn
open Go Go.Proofs.Ythbmlioknnhleaa.Abs
set_option linter.unusedVariables false
/-- a slice of no rows is not nil -/
def nnB (n : Nat) (q : Nat → Nat → Int) : Bool := !(decide (n = 0) && !decide (q 0 0 = 0))
theorem nn_canon (n : Nat) (q : Nat → Nat → Int) : nnB n (canonI n 27 q) = true := by
  unfold nnB canonI
  by_cases h : n = 0 <;> simp [h]
theorem nnB_not {n : Nat} {q : Nat → Nat → Int} (h : nnB n q = true) : ¬ (n = 0 ∧ ¬ q 0 0 = 0) := by
  unfold nnB at h
  rintro ⟨rfl, h2⟩
  simp [h2] at h
def e_sorted : Ent := (70, fun vs => match vs with
  | [.agg [.int .i64 p, .int .i64 r, .int .i64 k, .int .i64 c, x]] => (prods x).map fun y => (nnB y.1 y.2 && decide (y.1 ≤ 30), .agg [.int .i64 p, .int .i64 r, .int .i64 k, .int .i64 c, .sl 0 0 y.1 y.1], [⟨tProduct, 27, .ints .u8 27 y.1 (sortQ y.1 y.2)⟩])
  | _ => none)
def codeSortScheme (a : Sch) : Int := bif isB a.p a.r a.m a.c a.n a.q then 0 else 1
def resSortScheme (a : Sch) : Sch := ⟨a.p, a.r, a.m, a.c, a.n, sortQ a.n a.q⟩
def g_sorts (nn : Bool) : List AV → Option Ans := fun vs => match vs with
  | [x] => (sch x).map fun a => sAns false (!nn || nnB a.n a.q) (codeSortScheme a) (resSortScheme a)
  | _ => none
def ce_specSortScheme : CEnt := (32, g_sorts false)
def ce_implSortScheme : CEnt := (33, g_sorts true)
end Go.Proofs.Ythbmlioknnhleaa.Fn
