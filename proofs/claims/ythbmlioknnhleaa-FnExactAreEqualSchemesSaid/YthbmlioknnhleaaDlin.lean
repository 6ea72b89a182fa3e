/- Sums, multiples and leading numbers of forms modulo a prime, and what is told of them. -/
import Derived.Test.YthbmlioknnhleaaFa
import Derived.Test.YthbmlioknnhleaaDk
import Derived.Test.YthbmlioknnhleaaDg
namespace Go.Proofs.Ythbmlioknnhleaa.Fn
open Go Go.Proofs.Ythbmlioknnhleaa.Abs
set_option linter.unusedVariables false
set_option linter.unusedSimpArgs false
set_option maxRecDepth 100000
/-- nine numbers modulo p -/
def mod9 (p : Int) (f : Nat → Int) : Bool := allN (fun j => decide (0 ≤ f j) && decide (f j < p)) 0 9
theorem mod9_iff {p : Int} {f : Nat → Int} : mod9 p f = true ↔ ∀ j, j < 9 → 0 ≤ f j ∧ f j < p := by
  unfold mod9
  simp only [allN_iff, Bool.and_eq_true, decide_eq_true_eq]
  exact ⟨fun h j hj => h j (by omega) (by omega), fun h j _ hj => h j (by omega)⟩
theorem cellsFrom_congr' {k : IntKind} {f g : Nat → Int} : ∀ (n i : Nat), (∀ j, i ≤ j → j < i + n → f j = g j) → cellsFrom k f i n = cellsFrom k g i n
  | 0, i, _ => rfl
  | n + 1, i, h => by
    simp only [cellsFrom]
    rw [h i (Nat.le_refl _) (by omega), cellsFrom_congr' n (i + 1) fun j h1 h2 => h j (by omega) (by omega)]
theorem u8_of {x : Int} (h : 0 ≤ x ∧ x ≤ 255) : IntKind.u8.wrap x = x := by
  have e : IntKind.u8.wrap x = x % 256 := rfl
  rw [e]
  omega
theorem prime3 {p : Int} (h : primeB p = true) : p = 2 ∨ p = 3 ∨ p = 5 := by
  unfold primeB at h
  simpa using h
/-- f and s times g, modulo p -/
def sumQ (p s : Int) (f g : Nat → Int) (i : Nat) : Int := (f i + s * g i) % p
/-- s times f, modulo p -/
def scaleQ (p s : Int) (f : Nat → Int) (i : Nat) : Int := s * f i % p
theorem sum_cell {p s x y : Int} (hp : p = 2 ∨ p = 3 ∨ p = 5) (hs : -100 ≤ s ∧ s ≤ 100) (hx : 0 ≤ x ∧ x < p) (hy : 0 ≤ y ∧ y < p) : W (W x + W (s * W y)) = x + s * y ∧ -600 ≤ x + s * y ∧ x + s * y ≤ 600 := by
  have hy' : y = 0 ∨ y = 1 ∨ y = 2 ∨ y = 3 ∨ y = 4 := by omega
  have b : -400 ≤ s * y ∧ s * y ≤ 400 := by rcases hy' with rfl | rfl | rfl | rfl | rfl <;> omega
  rw [W_of (n := y) (by omega) (by omega), W_of (n := s * y) (by omega) (by omega), W_of (n := x) (by omega) (by omega), W_of (n := x + s * y) (by omega) (by omega)]
  exact ⟨rfl, by omega, by omega⟩
theorem mod_twice {p z : Int} (hp : p = 2 ∨ p = 3 ∨ p = 5) (h1 : -600 ≤ z) (h2 : z ≤ 600) : W (Int.tmod z p + p) = Int.tmod z p + p ∧ 0 ≤ Int.tmod z p + p ∧ (Int.tmod z p + p) % p = z % p := by
  have e : ∃ t, Int.tmod z p = t ∧ -p < t ∧ t < p ∧ (t + p) % p = z % p := by
    by_cases hz : 0 ≤ z
    · rw [Int.tmod_eq_emod_of_nonneg hz]
      rcases hp with rfl | rfl | rfl <;> exact ⟨_, rfl, by omega, by omega, by omega⟩
    · obtain ⟨w, rfl⟩ : ∃ w, z = -w := ⟨-z, by omega⟩
      rw [Int.neg_tmod, Int.tmod_eq_emod_of_nonneg (show 0 ≤ w by omega)]
      rcases hp with rfl | rfl | rfl <;> exact ⟨_, rfl, by omega, by omega, by omega⟩
  obtain ⟨t, e1, e2, e3, e4⟩ := e
  rw [e1]
  exact ⟨W_of (by omega) (by omega), by omega, e4⟩
def g_sum : G := fun vs => match vs with
  | [.int .i64 p, .agg cs, .agg ds, .int .i64 s] => (u8s 9 cs).bind fun l => (u8s 9 ds).map fun l' =>
    (primeB p && (decide (0 ≤ s ∧ s ≤ 100) && (mod9 p (nthI l) && mod9 p (nthI l'))), .agg (cellsI .u8 9 (sumQ p s (nthI l) (nthI l'))), [])
  | _ => none
def e_sum : Ent := (149, g_sum)
def g_addm : G := fun vs => match vs with
  | [.int .i64 p, .agg cs, .agg ds, .int .i64 s] => (u8s 9 cs).bind fun l => (u8s 9 ds).map fun l' =>
    (primeB p && (decide (-100 ≤ s ∧ s ≤ 100) && (mod9 p (nthI l) && mod9 p (nthI l'))), .agg (cellsI .u8 9 (sumQ p s (nthI l) (nthI l'))), [])
  | _ => none
def e_l01Add : Ent := (120, g_addm)
theorem sum_raw (p s : Int) (f g : Nat → Int) (hp : p = 2 ∨ p = 3 ∨ p = 5) : fnK Try.prog (kc (tabOf [])) 40 (rnd [] 40 10) 149 [I p, .agg (cellsI .u8 9 f), .agg (cellsI .u8 9 g), I s] done = some (.agg (cellsI .u8 9 (fun i => IntKind.u8.wrap (Int.tmod (W (W (f i) + W (s * W (g i)))) p))), [], true) := by
  rcases hp with rfl | rfl | rfl <;> kernel_rfl
theorem add_raw (p s : Int) (f g : Nat → Int) (hp : p = 2 ∨ p = 3 ∨ p = 5) : fnK Try.prog (kc (tabOf [])) 40 (rnd [] 40 10) 120 [I p, .agg (cellsI .u8 9 f), .agg (cellsI .u8 9 g), I s] done = some (.agg (cellsI .u8 9 (fun i => IntKind.u8.wrap (Int.tmod (W (Int.tmod (W (W (f i) + W (s * W (g i)))) p + p)) p))), [], true) := by
  rcases hp with rfl | rfl | rfl <;> kernel_rfl
theorem sum_ok : EntOk e_sum := by
  intro vs v new hv
  unfold e_sum g_sum at hv
  simp only at hv
  split at hv
  · rename_i p cs ds s
    simp only [Option.bind_eq_some_iff, Option.map_eq_some_iff, Prod.mk.injEq, Bool.and_eq_true, decide_eq_true_eq] at hv
    obtain ⟨l, hl, l', hl', ⟨h1, h2, h3, h4⟩, rfl, rfl⟩ := hv
    rw [u8s_eq hl, u8s_eq hl']
    have hp := prime3 h1
    have e : cellsI .u8 9 (sumQ p s (nthI l) (nthI l')) = cellsI .u8 9 (fun i => IntKind.u8.wrap (Int.tmod (W (W (nthI l i) + W (s * W (nthI l' i)))) p)) := cellsFrom_congr' 9 0 fun j _ hj => by
      have hx := mod9_iff.1 h3 j (by omega)
      have hy := mod9_iff.1 h4 j (by omega)
      obtain ⟨a1, a2, a3⟩ := sum_cell hp ⟨by omega, h2.2⟩ hx hy
      have nn : 0 ≤ nthI l j + s * nthI l' j := Int.add_nonneg hx.1 (Int.mul_nonneg h2.1 hy.1)
      rw [a1, Int.tmod_eq_emod_of_nonneg nn]
      have b1 := Int.emod_nonneg (nthI l j + s * nthI l' j) (show p ≠ 0 by omega)
      have b2 := Int.emod_lt_of_pos (nthI l j + s * nthI l' j) (show 0 < p by omega)
      exact (u8_of ⟨b1, by omega⟩).symm
    refine ent_run none_ok rfl same_weak rfl rfl ((sum_raw p s (nthI l) (nthI l') hp).trans ?_) (cleanL_cells _ _ _ _) cleanB_nil
    rw [e]
  · cases hv
theorem l01Add_ok : EntOk e_l01Add := by
  intro vs v new hv
  unfold e_l01Add g_addm at hv
  simp only at hv
  split at hv
  · rename_i p cs ds s
    simp only [Option.bind_eq_some_iff, Option.map_eq_some_iff, Prod.mk.injEq, Bool.and_eq_true, decide_eq_true_eq] at hv
    obtain ⟨l, hl, l', hl', ⟨h1, h2, h3, h4⟩, rfl, rfl⟩ := hv
    rw [u8s_eq hl, u8s_eq hl']
    have hp := prime3 h1
    have e : cellsI .u8 9 (sumQ p s (nthI l) (nthI l')) = cellsI .u8 9 (fun i => IntKind.u8.wrap (Int.tmod (W (Int.tmod (W (W (nthI l i) + W (s * W (nthI l' i)))) p + p)) p)) := cellsFrom_congr' 9 0 fun j _ hj => by
      have hx := mod9_iff.1 h3 j (by omega)
      have hy := mod9_iff.1 h4 j (by omega)
      obtain ⟨a1, a2, a3⟩ := sum_cell hp h2 hx hy
      rw [a1]
      unfold sumQ
      generalize nthI l j + s * nthI l' j = z at a2 a3
      have key := mod_twice hp a2 a3
      rw [key.1, Int.tmod_eq_emod_of_nonneg key.2.1, key.2.2]
      have b1 := Int.emod_nonneg z (show p ≠ 0 by omega)
      have b2 := Int.emod_lt_of_pos z (show 0 < p by omega)
      exact (u8_of ⟨b1, by omega⟩).symm
    refine ent_run none_ok rfl same_weak rfl rfl ((add_raw p s (nthI l) (nthI l') hp).trans ?_) (cleanL_cells _ _ _ _) cleanB_nil
    rw [e]
  · cases hv
end Go.Proofs.Ythbmlioknnhleaa.Fn
