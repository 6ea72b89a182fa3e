/- What is told of ScaledScheme is so. -/
import Derived.Test.YthbmlioknnhleaaFss
import Derived.Test.YthbmlioknnhleaaFnmb
import Derived.Test.YthbmlioknnhleaaDsc
import Derived.Test.YthbmlioknnhleaaEsc
namespace Go.Proofs.Ythbmlioknnhleaa.Fn
open Go Go.Proofs.Ythbmlioknnhleaa.Abs
set_option maxRecDepth 100000
set_option linter.unusedVariables false
set_option linter.unusedSimpArgs false
theorem l04First_ok : EntOk e_l04First := lead_ok' rfl fun q => by
  show _ = leadT q 0 9
  kernel_rfl
/-- a product scaled, as the reference does it -/
abbrev scG (p : Int) (q : Nat → Nat → Int) (i : Nat) : Nat → Int := prodQ (mulQ p (invI p (leadQ (pA (q i)))) (pA (q i))) (mulQ p (invI p (leadQ (pB (q i)))) (pB (q i))) (mulQ p (Int.tmod (W (leadQ (pA (q i)) * leadQ (pB (q i)))) p) (pC (q i)))
theorem scG_eq {p : Int} {q : Nat → Nat → Int} {i c : Nat} (h : okN p (q i) = true) (hc : c < 27) : normF p (q i) c = scG p q i c := by
  obtain ⟨h1, h2, h3, h4, h5, h6⟩ := okN_parts h
  obtain ⟨m1, m2, m3⟩ := lead_mul (prime3 h1) h5 h6
  refine prodQ_congr (fun _ _ => rfl) (fun _ _ => rfl) (fun j _ => ?_) hc
  show (0 + leadQ (pA (q i)) * leadQ (pB (q i)) * pC (q i) j) % p = (0 + Int.tmod (W (leadQ (pA (q i)) * leadQ (pB (q i)))) p * pC (q i) j) % p
  rw [Int.zero_add, Int.zero_add, m3, Int.tmod_eq_emod_of_nonneg (by omega)]
  generalize leadQ (pA (q i)) * leadQ (pB (q i)) = a
  generalize pC (q i) j = b
  rw [Int.mul_emod (a % p), Int.emod_emod, ← Int.mul_emod]
section
variable (p r k c : Int) (n : Nat) (q : Nat → Nat → Int) (h : okNs p n q = true)
include h
theorem specScaled_run (N : Nat) : ∀ (d i m : Nat) (qh : Nat → Nat → Int), i + d = n → (∀ a c, a < i → c < 27 → normF p (q a) c = qh a c) → Gives (.tup [.agg [I p, I r, I k, I c, .sl 0 0 n n], I 0]) n (sortQ n fun i => normF p (q i)) (LspecScaled_5 p r k c n q N (m + d + 1) (i : Int) i qh)
  | 0, i, m, qh, hi, hq => by
    obtain ⟨hn, hk⟩ := okNs_parts h
    obtain rfl : i = n := by omega
    rw [Nat.add_zero, rspecScaled_5, bifF (decide_eq_false (Int.lt_irrefl _)), chkbeq, chkd (by omega), chkd hn]
    exact ⟨_, rfl, fun a c ha hc => sortQ_congr (fun i j hi hj => by rw [hq i j hi hj]; simp [canonI, hi, hj]) ha hc⟩
  | d + 1, i, m, qh, hi, hq => by
    obtain ⟨hn, hk⟩ := okNs_parts h
    have ho := hk i (by omega)
    obtain ⟨h1, h2, h3, h4, h5, h6⟩ := okN_parts ho
    have hp := prime3 h1
    have i1 := inv_rng hp h5
    have i2 := inv_rng hp h6
    obtain ⟨m1, m2, m3⟩ := lead_mul hp h5 h6
    have j1 : -100 ≤ invI p (leadQ (pA (q i))) ∧ invI p (leadQ (pA (q i))) ≤ 100 := ⟨by omega, i1.2⟩
    have j2 : -100 ≤ invI p (leadQ (pB (q i))) ∧ invI p (leadQ (pB (q i))) ≤ 100 := ⟨by omega, i2.2⟩
    have t : -100 ≤ Int.tmod (W (leadQ (pA (q i)) * leadQ (pB (q i)))) p ∧ Int.tmod (W (leadQ (pA (q i)) * leadQ (pB (q i)))) p ≤ 100 := by
      rw [m3, Int.tmod_eq_emod_of_nonneg (by omega)]
      have b1 := Int.emod_nonneg (leadQ (pA (q i)) * leadQ (pB (q i))) (show p ≠ 0 by omega)
      have b2 := Int.emod_lt_of_pos (leadQ (pA (q i)) * leadQ (pB (q i))) (show 0 < p by omega)
      omega
    have p0 : ¬ p = 0 := by omega
    rw [show m + (d + 1) + 1 = (m + d + 1) + 1 by omega, rspecScaled_5, toN, W_succ (show i < 1099511627776 by omega), bifT (decide_eq_true (by omega)), chkd ⟨by omega, by omega⟩, chkb (by simp [h1, h5]), chkb (by simp [h1, j1, h2]), chkb (by simp [h1, h6]), chkb (by simp [h1, j2, h3]), chknd p0, chkb (by simp [h1, t, h4]), chkbeq, chkd (by omega), chkd rfl]
    refine specScaled_run N d (i + 1) m _ (by omega) fun a c ha hc => ?_
    by_cases h' : a < i
    · simp only [h', decide_true, cond_true]; exact hq a c h' hc
    · obtain rfl : a = i := by omega
      simp only [Nat.lt_irrefl, decide_false, cond_false]
      exact scG_eq ho hc
end
theorem codeScaled0 {p r k c : Int} {n : Nat} {q : Nat → Nat → Int} (h : codeScaledScheme ⟨p, r, k, c, n, q⟩ = 0) : isB p r k c n q = true := by
  unfold codeScaledScheme at h
  simp only at h
  cases hB : isB p r k c n q with
  | false => simp [hB] at h
  | true => rfl
theorem mScaledScheme_fact {x : Sch} (h : codeScaledScheme x = 0) : (resScaledScheme x).n ≤ 1048576 := by
  obtain ⟨_, _, _, _, h5, _⟩ := isB_sizes (codeScaled0 (p := x.p) (r := x.r) (k := x.m) (c := x.c) (n := x.n) (q := x.q) h)
  show x.n ≤ 1048576
  omega
theorem ce_specScaledScheme_ok : CEntOk ce_specScaledScheme := by
  refine one_told (nil := false) (code := codeScaledScheme) (res := resScaledScheme) (l := [e_l01Is, e_l04First, e_l01Inverse, e_l01Scale, e_l01Sorted]) (fun vs a h => by
    unfold g_scaled at h
    split at h
    · rename_i x
      simp only [Option.map_eq_some_iff] at h
      obtain ⟨s, hs, rfl⟩ := h
      exact ⟨x, s, rfl, hs, rfl⟩
    · cases h) (by simp [l01Is_ok, l04First_ok, l01Inverse_ok, l01Scale_ok, l01Sorted_ok]) rfl ?_ ?_
  · intro p r k c n q h0
    refine (sspecScaled p r k c n q (n + 1)).trans ?_
    unfold codeScaledScheme at h0 ⊢
    simp only at h0 ⊢
    cases hB : isB p r k c n q with
    | true => rw [hB] at h0; exact absurd rfl h0
    | false => exact bifT (show (!false) = true from rfl) _ _
  · rintro p r k c n q h0 hr s rfl
    have hB := codeScaled0 h0
    have e := (sspecScaled p r k c n q (n + 1)).trans (bifF (by rw [hB]; rfl) _ _)
    rw [e]
    have := specScaled_run p r k c n q (okNs_of hB hr) (n + 1) n 0 0 (nthR []) (by omega) (fun a c h => by omega)
    rw [show 0 + n + 1 = n + 1 by omega] at this
    exact ⟨fun h => (by cases h), fun _ => this⟩
theorem ce_implScaledScheme_ok : CEntOk ce_implScaledScheme := by
  refine one_told (nil := false) (code := codeScaledScheme) (res := resScaledScheme) (l := [e_IsScheme, e_normals, e_sorted]) (fun vs a h => by
    unfold g_scaled at h
    split at h
    · rename_i x
      simp only [Option.map_eq_some_iff] at h
      obtain ⟨s, hs, rfl⟩ := h
      exact ⟨x, s, rfl, hs, rfl⟩
    · cases h) (by simp [IsScheme_ok, normals_ok, sorted_ok]) rfl ?_ ?_
  · intro p r k c n q h0
    refine (simplScaled p r k c n q (n + 1)).trans ?_
    unfold codeScaledScheme at h0 ⊢
    simp only at h0 ⊢
    cases hB : isB p r k c n q with
    | true => rw [hB] at h0; exact absurd rfl h0
    | false => exact bifT (show (!false) = true from rfl) _ _
  · rintro p r k c n q h0 hr s rfl
    have hB := codeScaled0 h0
    have e := (simplScaled p r k c n q (n + 1)).trans (bifF (by rw [hB]; rfl) _ _)
    rw [e, chkb (okNs_of hB hr), chkbeq, chkd (by omega), chkb (by rw [nn_canon]; exact decide_eq_true (okNs_parts (okNs_of hB hr)).1)]
    exact ⟨fun h => (by cases h), fun _ => ⟨_, rfl, fun a c ha hc => sortQ_congr (n := n) (q := fun i => normF p (q i)) (fun i j hi hj => by simp [canonI, hi, hj]) ha hc⟩⟩
end Go.Proofs.Ythbmlioknnhleaa.Fn
