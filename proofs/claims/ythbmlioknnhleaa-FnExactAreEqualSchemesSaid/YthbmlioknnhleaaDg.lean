/- What the laws' own helpers tell of whole schemes, and a table's entry at one leaf of a conditional answer. -/
import Derived.Test.YthbmlioknnhleaaDa
namespace Go.Proofs.Ythbmlioknnhleaa.Fn
open Go Go.Proofs.Ythbmlioknnhleaa.Abs
set_option linter.unusedVariables false

/-- a scheme, frozen -/
structure Sch where
  p : Int
  r : Int
  m : Int
  c : Int
  n : Nat
  q : Nat → Nat → Int
def sch : AV → Option Sch
  | .agg [.int .i64 p, .int .i64 r, .int .i64 m, .int .i64 c, x] => (prods x).map fun y => ⟨p, r, m, c, y.1, y.2⟩
  | _ => none
def eqS (a b : Sch) : Bool := decide (a.p = b.p) && (decide (a.r = b.r) && (decide (a.m = b.m) && (decide (a.c = b.c) && eqPs a.n a.q b.n b.q)))
def e_toScheme : Ent := (25, fun vs => match vs with
  | [x] => (sch x).map fun a => (decide (a.n ≤ 1048576), .agg [.int .i64 a.p, .int .i64 a.r, .int .i64 a.m, .int .i64 a.c, .sl 0 0 a.n a.n], [⟨tProduct, 27, .ints .u8 27 a.n a.q⟩])
  | _ => none)
def e_eqScheme : Ent := (27, fun vs => match vs with
  | [x, y] => (sch x).bind fun a => (sch y).map fun b => (decide (a.n ≤ 1048576), .bool (eqS a b), [])
  | _ => none)
def e_heldScheme : Ent := (31, fun vs => match vs with
  | [x, .int .i64 s] => (sch x).map fun a => (decide (a.n ≤ 1048576) && (decide (0 ≤ s) && decide (s ≤ 1099511627776)), .int .i64 (bif heldB s a.n a.q then s + 27 * a.n else -1), [])
  | _ => none)
def m_markScheme : MEnt := (28, fun vs b => match vs with
  | [.agg [.int .i64 _, .int .i64 _, .int .i64 _, .int .i64 _, .sl 0 0 n t], .int .i64 s] => some (decide (n = b.n) && (decide (t = b.n) && (decide (b.e = tProduct) && (decide (b.sz = 27) && (decide (b.k = .u8) && (decide (b.n ≤ 1048576) && (decide (0 ≤ s) && decide (s ≤ 1099511627776))))))), .int .i64 (s + 27 * b.n), ⟨b.e, b.sz, b.k, b.n, markQ s⟩)
  | _ => none)

theorem isB_sizes {p r k c : Int} {n : Nat} {q : Nat → Nat → Int} (h : isB p r k c n q = true) : (p = 2 ∨ p = 3 ∨ p = 5) ∧ (1 ≤ r ∧ r ≤ 3) ∧ (1 ≤ k ∧ k ≤ 3) ∧ (1 ≤ c ∧ c ≤ 3) ∧ n ≤ 30 ∧ allN (fun i => prodB p (W (r * k)) (W (k * c)) (W (r * c)) (q i)) 0 n = true := by
  unfold isB sizesB primeB sizeB at h
  simp only [Bool.and_eq_true, Bool.or_eq_true, decide_eq_true_eq] at h
  obtain ⟨⟨h1, ⟨h2, h3⟩, ⟨h4, h5⟩, h6, h7⟩, h8, h9⟩ := h
  exact ⟨h1, ⟨h2, h3⟩, ⟨h4, h5⟩, ⟨h6, h7⟩, h8, h9⟩
theorem mul9 {r k : Int} (h1 : 1 ≤ r ∧ r ≤ 3) (h2 : 1 ≤ k ∧ k ≤ 3) : 1 ≤ r * k ∧ r * k ≤ 9 ∧ W (r * k) = r * k := by
  have e1 : r = 1 ∨ r = 2 ∨ r = 3 := by omega
  have e2 : k = 1 ∨ k = 2 ∨ k = 3 := by omega
  rcases e1 with rfl | rfl | rfl <;> rcases e2 with rfl | rfl | rfl <;> exact ⟨by omega, by omega, W_of (by omega) (by omega)⟩


/-! ### one leaf of a conditional answer -/
def leafOf : Ans → List Bool → Option (Bool × AV × List KB)
  | .is y, [] => some y
  | .cut c x y, b :: l => match b with
    | true => (leafOf x l).map fun z => (c && z.1, z.2)
    | false => (leafOf y l).map fun z => (!c && z.1, z.2)
  | _, _ => none
/-- the entry that speaks of one leaf alone -/
def leafE (e : CEnt) (l : List Bool) : Ent := (e.1, fun vs => (e.2 vs).bind fun a => leafOf a l)
theorem leafOf_val : ∀ {a : Ans} {l : List Bool} {v : AV} {new : List KB}, leafOf a l = some (true, v, new) → a.val = (true, v, new)
  | .is y, [], v, new, h => by simp only [leafOf, Option.some.injEq] at h; exact h
  | .is y, b :: l, v, new, h => by simp [leafOf] at h
  | .cut c x y, [], v, new, h => by simp [leafOf] at h
  | .cut c x y, true :: l, v, new, h => by
    simp only [leafOf, Option.map_eq_some_iff, Prod.mk.injEq, Bool.and_eq_true] at h
    obtain ⟨⟨b, z⟩, h1, ⟨rfl, h2⟩, rfl⟩ := h
    simp only at h2
    subst h2
    simpa [Ans.val] using leafOf_val h1
  | .cut c x y, false :: l, v, new, h => by
    simp only [leafOf, Option.map_eq_some_iff, Prod.mk.injEq, Bool.and_eq_true, Bool.not_eq_true'] at h
    obtain ⟨⟨b, z⟩, h1, ⟨rfl, h2⟩, rfl⟩ := h
    simp only at h2
    subst h2
    simpa [Ans.val] using leafOf_val h1
theorem leafE_ok {e : CEnt} (h : CEntOk e) (l : List Bool) : EntOk (leafE e l) := by
  intro vs v new hv
  simp only [leafE, Option.bind_eq_some_iff] at hv
  obtain ⟨a, ha, hl⟩ := hv
  have hval := leafOf_val hl
  have := h vs a ha (by rw [hval])
  rw [hval] at this
  exact this

/-! ### a function whose result is a scheme and a code -/
/-- the n products, every one with cells that are bytes -/
def rngB (n : Nat) (q : Nat → Nat → Int) : Bool := allN (fun i => allN (fun j => decide (0 ≤ q i j) && decide (q i j ≤ 255)) 0 27) 0 n
theorem rngB_iff {n : Nat} {q : Nat → Nat → Int} : rngB n q = true ↔ ∀ i j, i < n → j < 27 → 0 ≤ q i j ∧ q i j ≤ 255 := by
  unfold rngB
  simp only [allN_iff, Bool.and_eq_true, decide_eq_true_eq]
  exact ⟨fun h i j hi hj => h i (by omega) (by omega) j (by omega) (by omega), fun h i _ hi j _ hj => h i j (by omega) (by omega)⟩
theorem rng_canon {n : Nat} {q : Nat → Nat → Int} (h : ∀ i j, i < n → j < 27 → inB (q i j)) : rngB n (canonI n 27 q) = true := by
  rw [rngB_iff]
  intro i j hi hj
  have := h i j hi hj
  simp only [canonI, hi, hj, decide_true, Bool.and_self, cond_true]
  exact this
def okA (g : Bool) (s : Sch) : Ans := .is (g, .tup [.agg [.int .i64 s.p, .int .i64 s.r, .int .i64 s.m, .int .i64 s.c, .sl 0 0 s.n s.n], .int .i64 0], [⟨tProduct, 27, .ints .u8 27 s.n s.q⟩])
def nilA (g : Bool) (s : Sch) : Ans := .is (g, .tup [.agg [.int .i64 s.p, .int .i64 s.r, .int .i64 s.m, .int .i64 s.c, .nilsl], .int .i64 0], [])
def errA (code : Int) : Ans := .is (true, .tup [.agg [.int .i64 0, .int .i64 0, .int .i64 0, .int .i64 0, .nilsl], .int .i64 code], [])
/-- 'nil': a scheme without products has no slice; 'g': what must hold where all is well -/
def sAns (nil g : Bool) (code : Int) (s : Sch) : Ans := .cut (decide (code = 0)) (.cut (nil && decide (s.n = 0)) (nilA g s) (okA g s)) (errA code)
theorem eq27_rfl (x : Nat → Int) : eq27 x x = true := by
  unfold eq27 eq9
  simp [allN_iff]
theorem eqPs_rfl (n : Nat) (x : Nat → Nat → Int) : eqPs n x n x = true := by
  unfold eqPs
  simp [allN_iff, eq27_rfl]
theorem eqPs_none (x y : Nat → Nat → Int) : eqPs 0 x 0 y = true := rfl
theorem eqS_rfl (a : Sch) : eqS a a = true := by
  unfold eqS
  simp [eqPs_rfl]
theorem eqS_none (p r m c : Int) (x y : Nat → Nat → Int) : eqS ⟨p, r, m, c, 0, x⟩ ⟨p, r, m, c, 0, y⟩ = true := by
  unfold eqS
  simp [eqPs_none]
theorem held_mark (s : Int) (n : Nat) : heldB s n (canonI n 27 (markQ s)) = true := by
  unfold heldB
  rw [allN_iff]
  intro i _ hi
  rw [allN_iff]
  intro j _ hj
  have h1 : i < n := by omega
  have h2 : j < 27 := by omega
  simp [canonI, h1, h2]
/-- a run in an empty heap over sound tables tells -/
theorem told_run {l : List Ent} {cl : List CEnt} {ml : List MEnt} (ht : ∀ e ∈ l, EntOk e) (hct : ∀ e ∈ cl, CEntOk e) (hmt : ∀ e ∈ ml, MEntOk e) {n : Nat} {m : Rounds} {f : Nat} {vs vs' : List AV} {v : AV} {new new' : List KB} (hlen : vs'.length = vs.length) (hw : ∀ (j : Nat) (x x' : AV), vs[j]? = some x → vs'[j]? = some x' → Weak x x') (hL : allNoL vs' = true)
    (hf : tabOf l cl f = none) (hfm : mtabOf ml f = none) (h : fnK Try.prog (kc (tabOf l cl) (mtabOf ml)) n m f vs' done = some (v, new', true)) (he : absH new = absH new') (hc : clean v = true) (hB : cleanB (absH new)) : Told f vs v new :=
  ⟨vs', v, absH new, hlen, hw, hL, by rw [he]; exact fnK_sem mixed plain (tabOf_ok' ht hct) (mtabOf_ok hmt) hf hfm h, .inl ⟨rfl, rfl, hc, hB⟩⟩
theorem left_of {n : Nat} (hn : n ≤ maxLen) : W (1048576 - (n : Int)) = 1048576 - (n : Int) := by
  unfold maxLen at hn
  exact W_of (by omega) (by omega)
/-- what a law's proof comes to -/
def LawOf (f : Nat) (vs : List AV) : Prop := ∃ (l : List Ent) (cl : List CEnt) (ml : List MEnt) (n : Nat) (m : Rounds) (new : List KB), (∀ e ∈ l, EntOk e) ∧ (∀ e ∈ cl, CEntOk e) ∧ (∀ e ∈ ml, MEntOk e) ∧ tabOf l cl f = none ∧ mtabOf ml f = none ∧ fnK Try.prog (kc (tabOf l cl) (mtabOf ml)) n m f vs done = some (.bool true, new, true)
theorem LawOf.calls {f : Nat} {vs : List AV} (h : LawOf f vs) (hL : allNoL vs = true) {w : World} {xs : Array Value} (hl : xs.size = vs.length)
    (hx : ∀ (j : Nat) x u, vs[j]? = some x → xs[j]? = some u → VRel (mem w) (fun _ => none) [] x u) : Calls Try.prog f xs w fun e w' => e = .returned (.bool true) ∧ RowKit.Below w.heap.size w w' := by
  obtain ⟨l, cl, ml, n, m, new, ht, hct, hmt, hf, hfm, hr⟩ := h
  exact law_of ht hct hmt hf hfm hr hL hl hx
end Go.Proofs.Ythbmlioknnhleaa.Fn
