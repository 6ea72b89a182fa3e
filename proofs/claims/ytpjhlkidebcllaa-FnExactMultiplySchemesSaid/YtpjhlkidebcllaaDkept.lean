/- Products without a form that is 0 everywhere are kept; marks of slices with room. -/
import Derived.Test.YtpjhlkidebcllaaDk
namespace Go.Proofs.Ytpjhlkidebcllaa.Fn
open Go Go.Proofs.Ytpjhlkidebcllaa.Abs
set_option linter.unusedVariables false
/-- no form of the product is 0 everywhere -/
def nzF (f : Nat → Int) : Bool := !zero9 (pA f) && (!zero9 (pB f) && !zero9 (pC f))
/-- those of n products that are kept -/
def nzL (n : Nat) (q : Nat → Nat → Int) : List Nat := keepL (fun i => nzF (q i)) 0 n
def keptQ (n : Nat) (q : Nat → Nat → Int) : Nat → Nat → Int := fun a => q ((nzL n q).getD a 0)
/-- the first m rows, zeros behind them -/
def roomQ (m : Nat) (q : Nat → Nat → Int) : Nat → Nat → Int := fun a c => bif decide (a < m) then q a c else 0
def e_hasZero : Ent := (107, fun vs => match vs with
  | [.agg cs] => (u8s 27 cs).map fun l => (true, .bool (!nzF (nthI l)), [])
  | _ => none)
/-- the first of i, i + 1, .. (d of them) for which b holds, or i + d -/
def firstN (b : Nat → Bool) : Nat → Nat → Nat
  | i, 0 => i
  | i, d + 1 => bif b i then i else firstN b (i + 1) d
def fnHasZero : Nat := 107
def zfirst (n : Nat) (q : Nat → Nat → Int) : Nat := firstN (fun i => !nzF (q i)) 0 n
def ce_indexFunc : CEnt := (121, fun vs => match vs with
  | [x, .fn f []] => (prods x).bind fun y => bif decide (f = fnHasZero) then some (.cut (decide (zfirst y.1 y.2 = y.1)) (.is (decide (y.1 ≤ 60), .int .i64 (-1), [])) (.is (decide (y.1 ≤ 60), .int .i64 (zfirst y.1 y.2 : Nat), []))) else none
  | _ => none)
def m_delFunc : MEnt := (106, fun vs b => match vs with
  | [.sl 0 0 n t, .fn f []] => bif decide (f = fnHasZero) then some (decide (n = b.n) && (decide (t = b.n) && (decide (b.e = tProduct) && (decide (b.sz = 27) && (decide (b.k = .u8) && decide (b.n ≤ 60))))),
      .sl 0 0 (nzL b.n b.q).length t, ⟨b.e, b.sz, b.k, b.n, roomQ (nzL b.n b.q).length (keptQ b.n b.q)⟩) else none
  | _ => none)
def m_kept : MEnt := (79, fun vs b => match vs with
  | [.sl 0 0 n t] => some (decide (n = b.n) && (decide (t = b.n) && (decide (b.e = tProduct) && (decide (b.sz = 27) && (decide (b.k = .u8) && decide (b.n ≤ 60))))),
      .sl 0 0 (nzL b.n b.q).length t, ⟨b.e, b.sz, b.k, b.n, roomQ (nzL b.n b.q).length (keptQ b.n b.q)⟩)
  | _ => none)
def e_l03Told : Ent := (74, fun vs => match vs with
  | [.agg [.int .i64 p, .int .i64 r, .int .i64 m, .int .i64 c, x], y] => (prods x).bind fun _ => (prods y).map fun w =>
    (decide (w.1 ≤ 1048576), .agg [.int .i64 p, .int .i64 r, .int .i64 m, .int .i64 c, .sl 0 0 (nzL w.1 w.2).length (nzL w.1 w.2).length], [⟨tProduct, 27, .ints .u8 27 (nzL w.1 w.2).length (keptQ w.1 w.2)⟩])
  | _ => none)
/-- marks, where the slice has room behind its rows -/
def m_markProductC : MEnt := (58, fun vs b => match vs with
  | [.sl 0 0 n t, .int .i64 s] => some (decide (n ≤ b.n) && (decide (t = b.n) && (decide (b.e = tProduct) && (decide (b.sz = 27) && (decide (b.k = .u8) && (decide (b.n ≤ 1048576) && (decide (0 ≤ s) && decide (s ≤ 1099511627776))))))), .int .i64 (s + 27 * n), ⟨b.e, b.sz, b.k, b.n, fun a c => bif decide (a < n) then markQ s a c else b.q a c⟩)
  | _ => none)
def m_markSchemeC : MEnt := (21, fun vs b => match vs with
  | [.agg [.int .i64 _, .int .i64 _, .int .i64 _, .int .i64 _, .sl 0 0 n t], .int .i64 s] => some (decide (n ≤ b.n) && (decide (t = b.n) && (decide (b.e = tProduct) && (decide (b.sz = 27) && (decide (b.k = .u8) && (decide (b.n ≤ 1048576) && (decide (0 ≤ s) && decide (s ≤ 1099511627776))))))), .int .i64 (s + 27 * n), ⟨b.e, b.sz, b.k, b.n, fun a c => bif decide (a < n) then markQ s a c else b.q a c⟩)
  | _ => none)
theorem held_markC (s : Int) (n t : Nat) (q : Nat → Nat → Int) : heldB s n (canonI n 27 (fun a c => bif decide (a < n) then markQ s a c else q a c)) = true := by
  unfold heldB
  rw [allN_iff]
  intro i _ hi
  rw [allN_iff]
  intro j _ hj
  have h1 : i < n := by omega
  have h2 : j < 27 := by omega
  simp [canonI, h1, h2]
theorem canon_room (n : Nat) (q : Nat → Nat → Int) : canonI n 27 (roomQ n q) = canonI n 27 q := by
  funext a c
  unfold canonI roomQ
  by_cases h : a < n <;> simp [h]
/-- a scheme whose slice has room for t products -/
def cutA (g : Bool) (s : Sch) (t : Nat) : Ans := .is (g, .tup [.agg [.int .i64 s.p, .int .i64 s.r, .int .i64 s.m, .int .i64 s.c, .sl 0 0 s.n t], .int .i64 0], [⟨tProduct, 27, .ints .u8 27 t (roomQ s.n s.q)⟩])
def kAns (g : Bool) (code : Int) (s : Sch) (t : Nat) : Ans := .cut (decide (code = 0)) (cutA g s t) (errA code)
end Go.Proofs.Ytpjhlkidebcllaa.Fn
