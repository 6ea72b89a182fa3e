/- What joins tell. -/
import Derived.Test.YtpjhlkidebcllaaDmov
namespace Go.Proofs.Ytpjhlkidebcllaa.Fn
open Go Go.Proofs.Ytpjhlkidebcllaa.Abs
set_option linter.unusedVariables false
/-- a product's forms put into greater ones -/
def frmF (r k c K C row inner col : Int) (f : Nat → Int) : Nat → Int := prodQ (movQ r.toNat k.toNat K.toNat row.toNat inner.toNat (pA f)) (movQ k.toNat c.toNat C.toNat inner.toNat col.toNat (pB f)) (movQ r.toNat c.toNat C.toNat row.toNat col.toNat (pC f))
def frmB (r k c K C row inner col : Int) : Bool := movB r k K row inner && (movB k c C inner col && movB r c C row col)
def e_framed : Ent := (104, fun vs => match vs with
  | [.agg [.int .i64 p, .int .i64 r, .int .i64 k, .int .i64 c, x], .agg [.int .i64 P, .int .i64 R, .int .i64 K, .int .i64 C, .nilsl], .int .i64 row, .int .i64 inner, .int .i64 col] => (prods x).map fun y =>
    (decide (y.1 ≤ 30) && frmB r k c K C row inner col, .sl 0 0 y.1 y.1, [⟨tProduct, 27, .ints .u8 27 y.1 fun i => frmF r k c K C row inner col (y.2 i)⟩])
  | _ => none)
def putQ (t : Nat) (b : Nat → Nat → Int) (r k c K C row inner col : Int) (q : Nat → Nat → Int) (a i : Nat) : Int := bif decide (a < t) then b a i else frmF r k c K C row inner col (q (a - t)) i
def m_l02Put : MEnt := (119, fun vs b => match vs with
  | [.agg [.int .i64 p, .int .i64 r, .int .i64 k, .int .i64 c, .vi .u8 27 n q], .agg [.int .i64 P, .int .i64 R, .int .i64 K, .int .i64 C, .sl 0 0 t u], .int .i64 row, .int .i64 inner, .int .i64 col] =>
    some (decide (t = b.n) && (decide (u = b.n) && (decide (b.e = tProduct) && (decide (b.sz = 27) && (decide (b.k = .u8) && (decide (b.n ≤ 30) && (decide (n ≤ 30) && frmB r k c K C row inner col)))))),
      .agg [.int .i64 P, .int .i64 R, .int .i64 K, .int .i64 C, .sl 0 0 (t + n) (u + n)], ⟨b.e, b.sz, b.k, b.n + n, putQ b.n b.q r k c K C row inner col q⟩)
  | _ => none)
/-- two schemes joined: over rows (0), inner (1), columns (2) -/
def codeJoin (o : Nat) (a b : Sch) : Int := bif isB a.p a.r a.m a.c a.n a.q && isB b.p b.r b.m b.c b.n b.q then
  (bif decide (a.p = b.p) && ((decide (o = 0) || decide (a.r = b.r)) && ((decide (o = 1) || decide (a.m = b.m)) && (decide (o = 2) || decide (a.c = b.c)))) then
    (bif decide ((bif decide (o = 0) then a.r + b.r else bif decide (o = 1) then a.m + b.m else a.c + b.c) ≤ 3) && decide (a.n + b.n ≤ 30) then 0 else 3) else 2) else 1
def resJoin (o : Nat) (a b : Sch) : Sch :=
  let r := bif decide (o = 0) then a.r + b.r else a.r
  let m := bif decide (o = 1) then a.m + b.m else a.m
  let c := bif decide (o = 2) then a.c + b.c else a.c
  ⟨a.p, r, m, c, a.n + b.n, fun i => bif decide (i < a.n) then frmF a.r a.m a.c m c 0 0 0 (a.q i) else frmF b.r b.m b.c m c (bif decide (o = 0) then a.r else 0) (bif decide (o = 1) then a.m else 0) (bif decide (o = 2) then a.c else 0) (b.q (i - a.n))⟩
def codeJoinRows : Sch → Sch → Int := codeJoin 0
def codeJoinInner : Sch → Sch → Int := codeJoin 1
def codeJoinCols : Sch → Sch → Int := codeJoin 2
def resJoinRows : Sch → Sch → Sch := resJoin 0
def resJoinInner : Sch → Sch → Sch := resJoin 1
def resJoinCols : Sch → Sch → Sch := resJoin 2
def g_join (code : Sch → Sch → Int) (res : Sch → Sch → Sch) : List AV → Option Ans := fun vs => match vs with
  | [x, y] => (sch x).bind fun a => (sch y).map fun b => sAns false true (code a b) (res a b)
  | _ => none
def ce_specJoinRows : CEnt := (37, g_join codeJoinRows resJoinRows)
def ce_implJoinRows : CEnt := (38, g_join codeJoinRows resJoinRows)
def ce_specJoinInner : CEnt := (35, g_join codeJoinInner resJoinInner)
def ce_implJoinInner : CEnt := (36, g_join codeJoinInner resJoinInner)
def ce_specJoinCols : CEnt := (33, g_join codeJoinCols resJoinCols)
def ce_implJoinCols : CEnt := (34, g_join codeJoinCols resJoinCols)
end Go.Proofs.Ytpjhlkidebcllaa.Fn
