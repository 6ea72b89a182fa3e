/- What AddProduct tells. -/
import Derived.Test.YtjdciikfbinchaaDg
namespace Go.Proofs.Ytjdciikfbinchaa.Fn
open Go Go.Proofs.Ytjdciikfbinchaa.Abs
/-- a slice of no rows is not nil -/
def nnB (n : Nat) (q : Nat → Nat → Int) : Bool := !(decide (n = 0) && !decide (q 0 0 = 0))
theorem nn_canon (n : Nat) (q : Nat → Nat → Int) : nnB n (canonI n 27 q) = true := by
  unfold nnB canonI
  by_cases h : n = 0 <;> simp [h]
theorem nnB_not {n : Nat} {q : Nat → Nat → Int} (h : nnB n q = true) : ¬ (n = 0 ∧ ¬ q 0 0 = 0) := by
  unfold nnB at h
  rintro ⟨rfl, h2⟩
  simp [h2] at h
/-- a product, its cells -/
def prod27 : AV → Option (Nat → Int)
  | .agg cs => (u8s 27 cs).map nthI
  | _ => none
def e_toProduct : Ent := (47, fun vs => match vs with
  | [x] => (prod27 x).map fun y => (true, .agg (cellsI .u8 27 y), [])
  | _ => none)
def addQ1 (n : Nat) (q : Nat → Nat → Int) (y : Nat → Int) : Nat → Nat → Int := fun i c => bif decide (i < n) then q i c else y c
def codeAddProduct (a : Sch) (y : Nat → Int) : Int := bif isB a.p a.r a.m a.c a.n a.q && prodB a.p (W (a.r * a.m)) (W (a.m * a.c)) (W (a.r * a.c)) y then (bif decide (a.n = 30) then 3 else 0) else 1
def resAddProduct (a : Sch) (y : Nat → Int) : Sch := ⟨a.p, a.r, a.m, a.c, a.n + 1, addQ1 a.n a.q y⟩
def g_add (nn : Bool) : List AV → Option Ans := fun vs => match vs with
  | [x, z] => (sch x).bind fun a => (prod27 z).map fun y => sAns false (!nn || nnB a.n a.q) (codeAddProduct a y) (resAddProduct a y)
  | _ => none
def ce_specAddProduct : CEnt := (46, g_add false)
def ce_implAddProduct : CEnt := (48, g_add true)
end Go.Proofs.Ytjdciikfbinchaa.Fn
