/- Transposed forms, and what is told of them. -/
import Derived.Test.YtpjhlkidebcllaaFa
import Derived.Test.YtpjhlkidebcllaaDk
import Derived.Test.YtpjhlkidebcllaaDg
namespace Go.Proofs.Ytpjhlkidebcllaa.Fn
open Go Go.Proofs.Ytpjhlkidebcllaa.Abs
set_option linter.unusedVariables false
set_option maxRecDepth 100000
/-- nine bytes -/
def rng9 (f : Nat → Int) : Bool := allN (fun j => decide (0 ≤ f j) && decide (f j ≤ 255)) 0 9
theorem rng9_iff {f : Nat → Int} : rng9 f = true ↔ ∀ j, j < 9 → 0 ≤ f j ∧ f j ≤ 255 := by
  unfold rng9
  simp only [allN_iff, Bool.and_eq_true, decide_eq_true_eq]
  exact ⟨fun h j hj => h j (by omega) (by omega), fun h j _ hj => h j (by omega)⟩
theorem u8W {x : Int} (h : 0 ≤ x ∧ x ≤ 255) : IntKind.u8.wrap (W x) = x := by
  rw [W_of (by omega) (by omega)]
  have e : IntKind.u8.wrap x = x % 256 := rfl
  rw [e]
  omega
theorem cellsFrom_congr {k : IntKind} {f g : Nat → Int} : ∀ (n i : Nat), (∀ j, i ≤ j → j < i + n → f j = g j) → cellsFrom k f i n = cellsFrom k g i n
  | 0, i, _ => rfl
  | n + 1, i, h => by
    simp only [cellsFrom]
    rw [h i (Nat.le_refl _) (by omega), cellsFrom_congr n (i + 1) fun j h1 h2 => h j (by omega) (by omega)]
/-- the transposed form of a matrix of r rows and c columns -/
def transQ (r c : Nat) (f : Nat → Int) (i : Nat) : Int := bif decide (i < r * c) then f (i % r * c + i / r) else 0
def g_turn : G := fun vs => match vs with
  | [.agg cs, .int .i64 r, .int .i64 c] => (u8s 9 cs).map fun l =>
    (decide (1 ≤ r ∧ r ≤ 3) && (decide (1 ≤ c ∧ c ≤ 3) && rng9 (nthI l)), .agg (cellsI .u8 9 (transQ r.toNat c.toNat (nthI l))), [])
  | _ => none
def e_turnedForm : Ent := (68, g_turn)
def e_l04Transposed : Ent := (67, g_turn)
theorem of3 {a : Int} (h1 : 1 ≤ a) (h2 : a ≤ 3) : a = 1 ∨ a = 2 ∨ a = 3 := by omega
theorem turn_ok' {f : Nat} (hf : tabOf [] [] f = none) (h : ∀ (q : Nat → Int) (r c : Int), rng9 q = true → (1 ≤ r ∧ r ≤ 3) → (1 ≤ c ∧ c ≤ 3) → fnK Try.prog (kc (tabOf [])) 40 (rnd [] 40 10) f [.agg (cellsI .u8 9 q), I r, I c] done = some (.agg (cellsI .u8 9 (transQ r.toNat c.toNat q)), [], true)) : EntOk (f, g_turn) := by
  intro vs v new hv
  unfold g_turn at hv
  simp only at hv
  split at hv
  · simp only [Option.map_eq_some_iff, Prod.mk.injEq, Bool.and_eq_true, decide_eq_true_eq] at hv
    obtain ⟨l, hl, ⟨h1, h2, h3⟩, rfl, rfl⟩ := hv
    rw [u8s_eq hl]
    exact ent_run none_ok rfl same_weak rfl hf (h _ _ _ h3 h1 h2) (cleanL_cells _ _ _ _) cleanB_nil
  · cases hv
theorem l04Transposed_ok : EntOk e_l04Transposed := turn_ok' rfl fun q r c _ h1 h2 => by
  rcases of3 h1.1 h1.2 with rfl | rfl | rfl <;> rcases of3 h2.1 h2.2 with rfl | rfl | rfl <;> kernel_rfl
theorem transQ_rng {q : Nat → Int} (hq : rng9 q = true) {r c : Nat} (hr : 1 ≤ r ∧ r ≤ 3) (hc : 1 ≤ c ∧ c ≤ 3) (i : Nat) : 0 ≤ transQ r c q i ∧ transQ r c q i ≤ 255 := by
  unfold transQ
  by_cases h : i < r * c
  · simp only [h, decide_true, cond_true]
    refine rng9_iff.1 hq _ ?_
    have h1 : i % r < r := Nat.mod_lt _ (by omega)
    have h2 : i / r < c := Nat.div_lt_of_lt_mul h
    have h3 : i % r * c + i / r < r * c := by
      calc i % r * c + i / r < i % r * c + c := by omega
        _ = (i % r + 1) * c := by rw [Nat.add_mul, Nat.one_mul]
        _ ≤ r * c := Nat.mul_le_mul_right _ h1
    have h4 : r * c ≤ 3 * 3 := Nat.mul_le_mul hr.2 hc.2
    omega
  · simp [h]
theorem turnedForm_ok : EntOk e_turnedForm := turn_ok' rfl fun q r c hq h1 h2 => by
  have e : cellsI .u8 9 (transQ r.toNat c.toNat q) = cellsI .u8 9 (fun i => IntKind.u8.wrap (W (transQ r.toNat c.toNat q i))) := cellsFrom_congr 9 0 fun j _ _ => (u8W (transQ_rng hq (by omega) (by omega) j)).symm
  refine Eq.trans ?_ (congrArg (fun z => some (AV.agg z, ([] : List KB), true)) e.symm)
  clear e
  rcases of3 h1.1 h1.2 with rfl | rfl | rfl <;> rcases of3 h2.1 h2.2 with rfl | rfl | rfl <;> kernel_rfl
def codeTurnScheme (a : Sch) : Int := bif isB a.p a.r a.m a.c a.n a.q then 0 else 1
def turnF (r m c : Int) (f : Nat → Int) : Nat → Int := prodQ (pB f) (transQ r.toNat c.toNat (pC f)) (transQ r.toNat m.toNat (pA f))
def resTurnScheme (a : Sch) : Sch := ⟨a.p, a.m, a.c, a.r, a.n, fun i => turnF a.r a.m a.c (a.q i)⟩
def g_turnS (nil : Bool) : List AV → Option Ans := fun vs => match vs with
  | [x] => (sch x).map fun a => sAns nil (rngB a.n a.q) (codeTurnScheme a) (resTurnScheme a)
  | _ => none
def ce_specTurnScheme : CEnt := (29, g_turnS false)
def ce_implTurnScheme : CEnt := (30, g_turnS true)
def codeTransposeScheme (a : Sch) : Int := bif isB a.p a.r a.m a.c a.n a.q then 0 else 1
def flipF (r m c : Int) (f : Nat → Int) : Nat → Int := prodQ (transQ m.toNat c.toNat (pB f)) (transQ r.toNat m.toNat (pA f)) (transQ r.toNat c.toNat (pC f))
def resTransposeScheme (a : Sch) : Sch := ⟨a.p, a.c, a.m, a.r, a.n, fun i => flipF a.r a.m a.c (a.q i)⟩
def g_flipS (nil : Bool) : List AV → Option Ans := fun vs => match vs with
  | [x] => (sch x).map fun a => sAns nil (rngB a.n a.q) (codeTransposeScheme a) (resTransposeScheme a)
  | _ => none
def ce_specTransposeScheme : CEnt := (31, g_flipS false)
def ce_implTransposeScheme : CEnt := (32, g_flipS true)
end Go.Proofs.Ytpjhlkidebcllaa.Fn
