/- Normal products, and what is told of them. -/
import Derived.Test.YthbmlioknnhleaaDlin2
import Derived.Test.YthbmlioknnhleaaEnrm
namespace Go.Proofs.Ythbmlioknnhleaa.Fn
open Go Go.Proofs.Ythbmlioknnhleaa.Abs
set_option linter.unusedVariables false
set_option linter.unusedSimpArgs false
set_option maxRecDepth 100000
def okN (p : Int) (f : Nat → Int) : Bool := primeB p && (mod9 p (pA f) && (mod9 p (pB f) && (mod9 p (pC f) && (!zero9 (pA f) && !zero9 (pB f)))))
def normF (p : Int) (f : Nat → Int) : Nat → Int := prodQ (mulQ p (invI p (leadQ (pA f))) (pA f)) (mulQ p (invI p (leadQ (pB f))) (pB f)) (mulQ p (leadQ (pA f) * leadQ (pB f)) (pC f))
def g_norm : G := fun vs => match vs with
  | [.int .i64 p, .agg cs] => (u8s 27 cs).map fun l => (okN p (nthI l), .agg (cellsI .u8 27 (normF p (nthI l))), [])
  | _ => none
def e_normal : Ent := (110, g_norm)
def e_l03Normal : Ent := (118, g_norm)
theorem leadFrom_cases {p : Int} {f : Nat → Int} (hp : p ≤ 5) : ∀ (d i : Nat), (∀ j, i ≤ j → j < i + d → 0 ≤ f j ∧ f j < p) → (leadFrom f i d = 0 ∧ ∀ j, i ≤ j → j < i + d → f j = 0) ∨ (1 ≤ leadFrom f i d ∧ leadFrom f i d < p)
  | 0, i, _ => .inl ⟨rfl, fun j h1 h2 => by omega⟩
  | d + 1, i, h => by
    have hi := h i (Nat.le_refl _) (by omega)
    simp only [leadFrom]
    by_cases h0 : f i = 0
    · simp only [h0, decide_true, cond_true]
      rcases leadFrom_cases hp d (i + 1) (fun j h1 h2 => h j (by omega) (by omega)) with ⟨h1, h2⟩ | h1
      · refine .inl ⟨h1, fun j a b => ?_⟩
        by_cases e : j = i
        · rw [e, h0]
        · exact h2 j (by omega) (by omega)
      · exact .inr h1
    · simp only [h0, decide_false, cond_false]
      rw [W_of (by omega) (by omega)]
      exact .inr ⟨by omega, by omega⟩
theorem lead_rng {p : Int} {f : Nat → Int} (hp : p ≤ 5) (hm : mod9 p f = true) (hz : zero9 f = false) : 1 ≤ leadQ f ∧ leadQ f < p := by
  rcases leadFrom_cases hp 9 0 (fun j _ hj => mod9_iff.1 hm j (by omega)) with ⟨_, h⟩ | h
  · rw [zero9_congr (F' := fun _ => 0) fun j hj => h j (by omega) (by omega)] at hz
    cases hz
  · exact h
theorem inv_rng {p n : Int} (hp : p = 2 ∨ p = 3 ∨ p = 5) (h : 1 ≤ n ∧ n < p) : 0 ≤ invI p n ∧ invI p n ≤ 100 := by
  have hn : n = 1 ∨ n = 2 ∨ n = 3 ∨ n = 4 := by omega
  rcases hp with rfl | rfl | rfl <;> rcases hn with rfl | rfl | rfl | rfl <;> decide
theorem lead_mul {p a b : Int} (hp : p = 2 ∨ p = 3 ∨ p = 5) (ha : 1 ≤ a ∧ a < p) (hb : 1 ≤ b ∧ b < p) : 1 ≤ a * b ∧ a * b ≤ 16 ∧ W (a * b) = a * b := by
  have h1 : a = 1 ∨ a = 2 ∨ a = 3 ∨ a = 4 := by omega
  have h2 : b = 1 ∨ b = 2 ∨ b = 3 ∨ b = 4 := by omega
  rcases h1 with rfl | rfl | rfl | rfl <;> rcases h2 with rfl | rfl | rfl | rfl <;> exact ⟨by omega, by omega, W_of (by omega) (by omega)⟩
theorem okN_parts {p : Int} {f : Nat → Int} (h : okN p f = true) : primeB p = true ∧ mod9 p (pA f) = true ∧ mod9 p (pB f) = true ∧ mod9 p (pC f) = true ∧ (1 ≤ leadQ (pA f) ∧ leadQ (pA f) < p) ∧ (1 ≤ leadQ (pB f) ∧ leadQ (pB f) < p) := by
  unfold okN at h
  simp only [Bool.and_eq_true, Bool.not_eq_true'] at h
  obtain ⟨h1, h2, h3, h4, h5, h6⟩ := h
  have hp := prime3 h1
  exact ⟨h1, h2, h3, h4, lead_rng (by omega) h2 h5, lead_rng (by omega) h3 h6⟩
theorem normal_c {p : Int} {f : Nat → Int} (h : okN p f = true) : fnK Try.prog (kc (tabOf [e_first, e_inverse, e_multiple])) 40 (rnd [] 40 0) 110 [I p, .agg (cellsI .u8 27 f)] done = some (.agg (cellsI .u8 27 (prodQ (mulQ p (invI p (leadQ (pA f))) (pA f)) (mulQ p (invI p (leadQ (pB f))) (pB f)) (mulQ p (Int.tmod (W (leadQ (pA f) * leadQ (pB f))) p) (pC f)))), [], true) := by
  obtain ⟨h1, h2, h3, h4, h5, h6⟩ := okN_parts h
  have hp := prime3 h1
  have i1 := inv_rng hp h5
  have i2 := inv_rng hp h6
  obtain ⟨m1, m2, m3⟩ := lead_mul hp h5 h6
  have t : 0 ≤ Int.tmod (W (leadQ (pA f) * leadQ (pB f))) p ∧ Int.tmod (W (leadQ (pA f) * leadQ (pB f))) p ≤ 100 := by
    rw [m3, Int.tmod_eq_emod_of_nonneg (by omega)]
    have b1 := Int.emod_nonneg (leadQ (pA f) * leadQ (pB f)) (show p ≠ 0 by omega)
    have b2 := Int.emod_lt_of_pos (leadQ (pA f) * leadQ (pB f)) (show 0 < p by omega)
    exact ⟨b1, by omega⟩
  have p0 : ¬ p = 0 := by omega
  refine (snormal p f 0).trans ?_
  rw [chkb (by simp [h1, h5]), chkb (by simp [h1, i1, h2]), chkb (by simp [h1, h6]), chkb (by simp [h1, i2, h3]), chknd p0, chkb (by simp [h1, t, h4])]
  rfl
theorem l03Normal_c {p : Int} {f : Nat → Int} (h : okN p f = true) : fnK Try.prog (kc (tabOf [e_l03Lead, e_l01Inverse, e_l01Scale])) 40 (rnd [] 40 0) 118 [I p, .agg (cellsI .u8 27 f)] done = some (.agg (cellsI .u8 27 (prodQ (mulQ p (invI p (leadQ (pA f))) (pA f)) (mulQ p (invI p (leadQ (pB f))) (pB f)) (mulQ p (W (leadQ (pA f) * leadQ (pB f))) (pC f)))), [], true) := by
  obtain ⟨h1, h2, h3, h4, h5, h6⟩ := okN_parts h
  have hp := prime3 h1
  have i1 := inv_rng hp h5
  have i2 := inv_rng hp h6
  obtain ⟨m1, m2, m3⟩ := lead_mul hp h5 h6
  have j1 : -100 ≤ invI p (leadQ (pA f)) ∧ invI p (leadQ (pA f)) ≤ 100 := ⟨by omega, i1.2⟩
  have j2 : -100 ≤ invI p (leadQ (pB f)) ∧ invI p (leadQ (pB f)) ≤ 100 := ⟨by omega, i2.2⟩
  have t : -100 ≤ W (leadQ (pA f) * leadQ (pB f)) ∧ W (leadQ (pA f) * leadQ (pB f)) ≤ 100 := by rw [m3]; omega
  refine (sl03Normal p f 0).trans ?_
  rw [chkb (by simp [h1, h5]), chkb (by simp [h1, j1, h2]), chkb (by simp [h1, h6]), chkb (by simp [h1, j2, h3]), chkb (by simp [h1, t, h4])]
  rfl
theorem norm_ok' {f : Nat} {l : List Ent} (hl : ∀ e ∈ l, EntOk e) (hf : tabOf l [] f = none) (h : ∀ (p : Int) (q : Nat → Int), okN p q = true → ∃ s : Int, fnK Try.prog (kc (tabOf l)) 40 (rnd [] 40 0) f [I p, .agg (cellsI .u8 27 q)] done = some (.agg (cellsI .u8 27 (prodQ (mulQ p (invI p (leadQ (pA q))) (pA q)) (mulQ p (invI p (leadQ (pB q))) (pB q)) (mulQ p s (pC q)))), [], true) ∧ s % p = (leadQ (pA q) * leadQ (pB q)) % p) : EntOk (f, g_norm) := by
  intro vs v new hv
  unfold g_norm at hv
  simp only at hv
  split at hv
  · rename_i p cs
    simp only [Option.map_eq_some_iff, Prod.mk.injEq] at hv
    obtain ⟨w, hw, h1, rfl, rfl⟩ := hv
    rw [u8s_eq hw]
    obtain ⟨s, hr, hs⟩ := h p (nthI w) h1
    have e : cellsI .u8 27 (normF p (nthI w)) = cellsI .u8 27 (prodQ (mulQ p (invI p (leadQ (pA (nthI w)))) (pA (nthI w))) (mulQ p (invI p (leadQ (pB (nthI w)))) (pB (nthI w))) (mulQ p s (pC (nthI w)))) := cellsFrom_congr' 27 0 fun j _ hj => prodQ_congr (fun _ _ => rfl) (fun _ _ => rfl) (fun j _ => by
      show (0 + leadQ (pA (nthI w)) * leadQ (pB (nthI w)) * pC (nthI w) j) % p = (0 + s * pC (nthI w) j) % p
      rw [Int.zero_add, Int.zero_add, Int.mul_emod, ← hs, ← Int.mul_emod]) (by omega)
    refine ent_run hl rfl same_weak rfl hf (hr.trans ?_) (cleanL_cells _ _ _ _) cleanB_nil
    rw [e]
  · cases hv
theorem normal_ok : EntOk e_normal := norm_ok' (l := [e_first, e_inverse, e_multiple]) (by simp [first_ok, inverse_ok, multiple_ok]) rfl fun p q h => ⟨_, normal_c h, by
  obtain ⟨h1, _, _, _, h5, h6⟩ := okN_parts h
  obtain ⟨m1, m2, m3⟩ := lead_mul (prime3 h1) h5 h6
  rw [m3, Int.tmod_eq_emod_of_nonneg (by omega), Int.emod_emod]⟩
theorem l03Normal_ok : EntOk e_l03Normal := norm_ok' (l := [e_l03Lead, e_l01Inverse, e_l01Scale]) (by simp [l03Lead_ok, l01Inverse_ok, l01Scale_ok]) rfl fun p q h => ⟨_, l03Normal_c h, by
  obtain ⟨h1, _, _, _, h5, h6⟩ := okN_parts h
  obtain ⟨m1, m2, m3⟩ := lead_mul (prime3 h1) h5 h6
  rw [m3]⟩
end Go.Proofs.Ythbmlioknnhleaa.Fn
