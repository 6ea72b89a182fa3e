/- Multiples, leading numbers and inverses modulo a prime, and what is told of them. -/
import Derived.Test.YthbmlioknnhleaaDlin
namespace Go.Proofs.Ythbmlioknnhleaa.Fn
open Go Go.Proofs.Ythbmlioknnhleaa.Abs
set_option linter.unusedVariables false
set_option linter.unusedSimpArgs false
set_option maxRecDepth 100000
def zeroQ : Nat → Int := fun _ => 0
/-- s times f, modulo p -/
abbrev mulQ (p s : Int) (f : Nat → Int) : Nat → Int := sumQ p s zeroQ f
def g_mult (lo : Int) : G := fun vs => match vs with
  | [.int .i64 p, .agg ds, .int .i64 s] => (u8s 9 ds).map fun l =>
    (primeB p && (decide (lo ≤ s ∧ s ≤ 100) && mod9 p (nthI l)), .agg (cellsI .u8 9 (mulQ p s (nthI l))), [])
  | _ => none
def e_multiple : Ent := (147, g_mult 0)
def e_l01Scale : Ent := (77, g_mult (-100))
theorem mod9_zero {p : Int} (h : primeB p = true) : mod9 p (nthI [0, 0, 0, 0, 0, 0, 0, 0, 0]) = true := by
  rcases prime3 h with rfl | rfl | rfl <;> rfl
theorem mult_raw (p s : Int) (f : Nat → Int) (h1 : primeB p = true) (h2 : 0 ≤ s ∧ s ≤ 100) (h3 : mod9 p (nthI (intsFrom f 0 9)) = true) : fnK Try.prog (kc (tabOf [e_sum])) 40 (rnd [] 40 10) 147 [I p, .agg (cellsI .u8 9 f), I s] done = some (.agg (cellsI .u8 9 (sumQ p s (nthI [0, 0, 0, 0, 0, 0, 0, 0, 0]) (nthI (intsFrom f 0 9)))), [], true) := by
  have e : fnK Try.prog (kc (tabOf [e_sum])) 40 (rnd [] 40 10) 147 [I p, .agg (cellsI .u8 9 f), I s] done = chk (primeB p && (decide (0 ≤ s ∧ s ≤ 100) && (mod9 p (nthI [0, 0, 0, 0, 0, 0, 0, 0, 0]) && mod9 p (nthI (intsFrom f 0 9))))) (some (.agg (cellsI .u8 9 (sumQ p s (nthI [0, 0, 0, 0, 0, 0, 0, 0, 0]) (nthI (intsFrom f 0 9)))), [], true)) := by kernel_rfl
  rw [e, chkb (by simp [h1, h2, h3, mod9_zero h1])]
theorem scale_raw (p s : Int) (f : Nat → Int) (h1 : primeB p = true) (h2 : -100 ≤ s ∧ s ≤ 100) (h3 : mod9 p (nthI (intsFrom f 0 9)) = true) : fnK Try.prog (kc (tabOf [e_l01Add])) 40 (rnd [] 40 10) 77 [I p, .agg (cellsI .u8 9 f), I s] done = some (.agg (cellsI .u8 9 (sumQ p s (nthI [0, 0, 0, 0, 0, 0, 0, 0, 0]) (nthI (intsFrom f 0 9)))), [], true) := by
  have e : fnK Try.prog (kc (tabOf [e_l01Add])) 40 (rnd [] 40 10) 77 [I p, .agg (cellsI .u8 9 f), I s] done = chk (primeB p && (decide (-100 ≤ s ∧ s ≤ 100) && (mod9 p (nthI [0, 0, 0, 0, 0, 0, 0, 0, 0]) && mod9 p (nthI (intsFrom f 0 9))))) (some (.agg (cellsI .u8 9 (sumQ p s (nthI [0, 0, 0, 0, 0, 0, 0, 0, 0]) (nthI (intsFrom f 0 9)))), [], true)) := by kernel_rfl
  rw [e, chkb (by simp [h1, h2, h3, mod9_zero h1])]
theorem mod9_congr {p : Int} {f g : Nat → Int} (h : ∀ j, j < 9 → f j = g j) : mod9 p f = mod9 p g := by
  unfold mod9
  exact allN_congr 9 0 fun j _ hj => by rw [h j (by omega)]
theorem mult_ok' {f : Nat} {lo : Int} {l : List Ent} (hl : ∀ e ∈ l, EntOk e) (hf : tabOf l [] f = none) (h : ∀ (p s : Int) (q : Nat → Int), primeB p = true → (lo ≤ s ∧ s ≤ 100) → mod9 p (nthI (intsFrom q 0 9)) = true → fnK Try.prog (kc (tabOf l)) 40 (rnd [] 40 10) f [I p, .agg (cellsI .u8 9 q), I s] done = some (.agg (cellsI .u8 9 (sumQ p s (nthI [0, 0, 0, 0, 0, 0, 0, 0, 0]) (nthI (intsFrom q 0 9)))), [], true)) : EntOk (f, g_mult lo) := by
  intro vs v new hv
  unfold g_mult at hv
  simp only at hv
  split at hv
  · rename_i p ds s
    simp only [Option.map_eq_some_iff, Prod.mk.injEq, Bool.and_eq_true, decide_eq_true_eq] at hv
    obtain ⟨l, hl', ⟨h1, h2, h3⟩, rfl, rfl⟩ := hv
    rw [u8s_eq hl']
    have e : cellsI .u8 9 (mulQ p s (nthI l)) = cellsI .u8 9 (sumQ p s (nthI [0, 0, 0, 0, 0, 0, 0, 0, 0]) (nthI (intsFrom (nthI l) 0 9))) := cellsFrom_congr' 9 0 fun j _ hj => by
      unfold sumQ
      rw [nth0 (nthI l) (by omega)]
      have : nthI [0, 0, 0, 0, 0, 0, 0, 0, 0] j = 0 := by
        rcases lt9 (show j < 9 by omega) with rfl | rfl | rfl | rfl | rfl | rfl | rfl | rfl | rfl <;> rfl
      rw [this]
      rfl
    refine ent_run hl rfl same_weak rfl hf ((h p s (nthI l) h1 h2 ((mod9_congr fun j hj => nth0 (nthI l) hj).trans h3)).trans ?_) (cleanL_cells _ _ _ _) cleanB_nil
    rw [e]
  · cases hv
theorem multiple_ok : EntOk e_multiple := mult_ok' (l := [e_sum]) (by simp [sum_ok]) rfl fun p s q h1 h2 h3 => mult_raw p s q h1 h2 h3
theorem l01Scale_ok : EntOk e_l01Scale := mult_ok' (l := [e_l01Add]) (by simp [l01Add_ok]) rfl fun p s q h1 h2 h3 => scale_raw p s q h1 h2 h3

/-! ### leading numbers -/
def leadFrom (f : Nat → Int) : Nat → Nat → Int
  | _, 0 => 0
  | i, d + 1 => bif decide (f i = 0) then leadFrom f (i + 1) d else W (f i)
/-- the first number other than 0, or 0 -/
def leadQ (f : Nat → Int) : Int := leadFrom f 0 9
def leadT (f : Nat → Int) : Nat → Nat → R
  | _, 0 => some (I 0, [], true)
  | i, d + 1 => bif !(decide (f i = 0)) then some (I (W (f i)), [], true) else leadT f (i + 1) d
theorem leadT_eq (f : Nat → Int) : ∀ (d i : Nat), leadT f i d = some (I (leadFrom f i d), [], true)
  | 0, i => rfl
  | d + 1, i => by
    simp only [leadT, leadFrom, leadT_eq f d (i + 1)]
    cases decide (f i = 0) <;> rfl
def g_lead : G := fun vs => match vs with
  | [.agg cs] => (u8s 9 cs).map fun l => (true, .int .i64 (leadQ (nthI l)), [])
  | _ => none
def e_first : Ent := (146, g_lead)
def e_l03Lead : Ent := (154, g_lead)
theorem lead_ok' {f : Nat} (hf : tabOf [] [] f = none) (h : ∀ q : Nat → Int, fnK Try.prog (kc (tabOf [])) 40 (rnd [] 40 10) f [.agg (cellsI .u8 9 q)] done = leadT q 0 9) : EntOk (f, g_lead) := by
  intro vs v new hv
  unfold g_lead at hv
  simp only at hv
  split at hv
  · simp only [Option.map_eq_some_iff, Prod.mk.injEq, true_and] at hv
    obtain ⟨l, hl, rfl, rfl⟩ := hv
    rw [u8s_eq hl]
    exact ent_run none_ok rfl same_weak rfl hf ((h (nthI l)).trans (leadT_eq _ 9 0)) rfl cleanB_nil
  · cases hv
theorem first_ok : EntOk e_first := lead_ok' rfl fun q => by
  show _ = leadT q 0 9
  kernel_rfl
theorem l03Lead_ok : EntOk e_l03Lead := lead_ok' rfl fun q => by
  show _ = leadT q 0 9
  kernel_rfl

/-! ### inverses -/
/-- the number that makes 1 with n -/
def invI (p n : Int) : Int := bif decide (p = 2) then 1 else bif decide (p = 3) then n else n * n * n % 5
def g_inv : G := fun vs => match vs with
  | [.int .i64 p, .int .i64 n] => some (primeB p && decide (1 ≤ n ∧ n < p), .int .i64 (invI p n), [])
  | _ => none
def e_inverse : Ent := (100, g_inv)
def e_l01Inverse : Ent := (78, g_inv)
theorem inv_ok' {f : Nat} (hf : tabOf [] [] f = none) (h2 : ∀ p n : Int, ((p = 2 ∧ n = 1) ∨ (p = 3 ∧ (n = 1 ∨ n = 2)) ∨ (p = 5 ∧ (n = 1 ∨ n = 2 ∨ n = 3 ∨ n = 4))) → fnK Try.prog (kc (tabOf [])) 40 (rnd [] 40 10) f [I p, I n] done = some (I (invI p n), [], true)) : EntOk (f, g_inv) := by
  intro vs v new hv
  unfold g_inv at hv
  simp only at hv
  split at hv
  · rename_i p n
    simp only [Option.some.injEq, Prod.mk.injEq, Bool.and_eq_true, decide_eq_true_eq] at hv
    obtain ⟨⟨h1, h3⟩, rfl, rfl⟩ := hv
    have hp := prime3 h1
    exact ent_run none_ok rfl same_weak rfl hf (h2 p n (by omega)) rfl cleanB_nil
  · cases hv
theorem inverse_ok : EntOk e_inverse := inv_ok' rfl fun p n h => by
  rcases h with ⟨rfl, rfl⟩ | ⟨rfl, rfl | rfl⟩ | ⟨rfl, rfl | rfl | rfl | rfl⟩ <;> kernel_rfl
theorem l01Inverse_ok : EntOk e_l01Inverse := inv_ok' rfl fun p n h => by
  rcases h with ⟨rfl, rfl⟩ | ⟨rfl, rfl | rfl⟩ | ⟨rfl, rfl | rfl | rfl | rfl⟩ <;> kernel_rfl
end Go.Proofs.Ythbmlioknnhleaa.Fn
