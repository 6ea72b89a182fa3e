/- What plus moves, splits and flips tell. -/
import Derived.Test.YtpjhlkidebcllaaDkept
import Derived.Test.YtpjhlkidebcllaaDlin
namespace Go.Proofs.Ytpjhlkidebcllaa.Fn
open Go Go.Proofs.Ytpjhlkidebcllaa.Abs
set_option linter.unusedVariables false
/-- a factor of a product; a product with another factor -/
def facF (f : Int) (q : Nat → Int) : Nat → Int := bif decide (f = 0) then pA q else bif decide (f = 1) then pB q else pC q
def setF (f : Int) (q g : Nat → Int) : Nat → Int := bif decide (f = 0) then prodQ g (pB q) (pC q) else bif decide (f = 1) then prodQ (pA q) g (pC q) else prodQ (pA q) (pB q) g
def eqF (x y : Nat → Int) : Bool := decide (intsFrom x 0 9 = intsFrom y 0 9)
def idxB (n : Nat) (i : Int) : Bool := decide (0 ≤ i) && decide (i < n)
def plusQ (p : Int) (n i k : Nat) (q : Nat → Nat → Int) : Nat → Nat → Int := fun a => bif decide (a = n) then prodQ (pA (q k)) (sumQ p (-1) (pB (q k)) (pB (q i))) (pC (q k)) else bif decide (a = k) then prodQ (pA (q k)) (pB (q i)) (sumQ p 1 (pC (q i)) (pC (q k))) else bif decide (a = i) then prodQ (sumQ p (-1) (pA (q i)) (pA (q k))) (pB (q i)) (pC (q i)) else q a
def codePlusMove (a : Sch) (i k : Int) : Int := bif isB a.p a.r a.m a.c a.n a.q then (bif idxB a.n i && idxB a.n k then (bif decide (i = k) then 5 else bif decide (a.n = 30) then 3 else 0) else 2) else 1
def resPlusMove (a : Sch) (i k : Int) : Sch := ⟨a.p, a.r, a.m, a.c, (nzL (a.n + 1) (plusQ a.p a.n i.toNat k.toNat a.q)).length, keptQ (a.n + 1) (plusQ a.p a.n i.toNat k.toNat a.q)⟩
def ce_specPlusMove : CEnt := (39, fun vs => match vs with
  | [x, .int .i64 i, .int .i64 k] => (sch x).map fun a => sAns false (rngB a.n a.q) (codePlusMove a i k) (resPlusMove a i k)
  | _ => none)
def ce_implPlusMove : CEnt := (40, fun vs => match vs with
  | [x, .int .i64 i, .int .i64 k] => (sch x).map fun a => kAns (rngB a.n a.q) (codePlusMove a i k) (resPlusMove a i k) (a.n + 1)
  | _ => none)
def flipQ (p : Int) (i k : Nat) (f s : Int) (q : Nat → Nat → Int) : Nat → Nat → Int := fun a => bif decide (a = k) then setF ((f + 2) % 3) (q k) (sumQ p (-s) (facF ((f + 2) % 3) (q k)) (facF ((f + 2) % 3) (q i))) else bif decide (a = i) then setF ((f + 1) % 3) (q i) (sumQ p s (facF ((f + 1) % 3) (q i)) (facF ((f + 1) % 3) (q k))) else q a
def codeFlipProducts (a : Sch) (i k f s : Int) : Int := bif isB a.p a.r a.m a.c a.n a.q then (bif (idxB a.n i && idxB a.n k) && ((decide (0 ≤ f) && decide (f ≤ 2)) && (decide (1 ≤ s) && decide (s < a.p))) then (bif decide (i = k) || !eqF (facF f (a.q i.toNat)) (facF f (a.q k.toNat)) then 5 else 0) else 2) else 1
def resFlipProducts (a : Sch) (i k f s : Int) : Sch := ⟨a.p, a.r, a.m, a.c, (nzL a.n (flipQ a.p i.toNat k.toNat f s a.q)).length, keptQ a.n (flipQ a.p i.toNat k.toNat f s a.q)⟩
def ce_specFlipProducts : CEnt := (44, fun vs => match vs with
  | [x, .int .i64 i, .int .i64 k, .int .i64 f, .int .i64 s] => (sch x).map fun a => sAns false (rngB a.n a.q) (codeFlipProducts a i k f s) (resFlipProducts a i k f s)
  | _ => none)
def ce_implFlipProducts : CEnt := (45, fun vs => match vs with
  | [x, .int .i64 i, .int .i64 k, .int .i64 f, .int .i64 s] => (sch x).map fun a => kAns (rngB a.n a.q) (codeFlipProducts a i k f s) (resFlipProducts a i k f s) a.n
  | _ => none)
def splitQ (p : Int) (n i : Nat) (f : Int) (y : Nat → Int) (q : Nat → Nat → Int) : Nat → Nat → Int := fun a => bif decide (a = n) then setF f (q i) (sumQ p (-1) (facF f (q i)) y) else bif decide (a = i) then setF f (q i) y else q a
def placeF (a : Sch) (f : Int) : Int := bif decide (f = 0) then W (a.r * a.m) else bif decide (f = 1) then W (a.m * a.c) else W (a.r * a.c)
def codeSplitProduct (a : Sch) (i f : Int) (y : Nat → Int) : Int := bif isB a.p a.r a.m a.c a.n a.q then (bif idxB a.n i && ((decide (0 ≤ f) && decide (f ≤ 2)) && formB a.p (placeF a f) y) then (bif zero9 y || eqF y (facF f (a.q i.toNat)) then 5 else bif decide (a.n = 30) then 3 else 0) else 2) else 1
def resSplitProduct (a : Sch) (i f : Int) (y : Nat → Int) : Sch := ⟨a.p, a.r, a.m, a.c, a.n + 1, splitQ a.p a.n i.toNat f y a.q⟩
/-- a form, its cells -/
def form9 : AV → Option (Nat → Int)
  | .agg cs => (u8s 9 cs).map nthI
  | _ => none
def e_toForm : Ent := (42, fun vs => match vs with
  | [x] => (form9 x).map fun y => (true, .agg (cellsI .u8 9 y), [])
  | _ => none)
/-- nine bytes -/
def rng9 (y : Nat → Int) : Bool := allN (fun j => decide (0 ≤ y j) && decide (y j ≤ 255)) 0 9
def g_split : List AV → Option Ans := fun vs => match vs with
  | [x, .int .i64 i, .int .i64 f, z] => (sch x).bind fun a => (form9 z).map fun y => sAns false (rngB a.n a.q && rng9 y) (codeSplitProduct a i f y) (resSplitProduct a i f y)
  | _ => none
def ce_specSplitProduct : CEnt := (41, g_split)
def ce_implSplitProduct : CEnt := (43, g_split)
/-- functions that answer nothing: a run ends where it comes to them -/
def e_noFactors : Ent := (87, fun _ => none)
def e_noPlaces : Ent := (86, fun _ => none)
def e_noFactor : Ent := (84, fun _ => none)
def e_noLength : Ent := (82, fun _ => none)
theorem none_ok' (f : Nat) : EntOk (f, fun _ => none) := fun _ _ _ h => by cases h
end Go.Proofs.Ytpjhlkidebcllaa.Fn
