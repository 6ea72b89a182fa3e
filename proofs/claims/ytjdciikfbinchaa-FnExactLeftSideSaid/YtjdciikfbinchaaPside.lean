/- The laws of the two sides, over the machine. -/
import Derived.Test.YtjdciikfbinchaaFc
namespace Go.Proofs.Ytjdciikfbinchaa.Fn
set_option linter.unusedSectionVars false
open Go Go.Proofs.Ytjdciikfbinchaa.Abs
theorem eq27_refl (x : Nat → Int) : eq27 x x = true := by
  unfold eq27 eq9
  simp [allN_iff]
theorem eqPs_refl (n : Nat) (x : Nat → Nat → Int) : eqPs n x n x = true := by
  unfold eqPs
  simp [allN_iff, eq27_refl]
theorem left_of {n : Nat} (hn : n ≤ maxLen) : W (1048576 - (n : Int)) = 1048576 - (n : Int) := by
  unfold maxLen at hn
  exact W_of (by omega) (by omega)
theorem code0 {p r k c : Int} {n : Nat} {q : Nat → Nat → Int} {a b d : Int} (h : codeB (isB p r k c n q) r k c a b d = 0) : p ≠ 0 ∧ k ≠ 0 ∧ c ≠ 0 ∧ n ≤ 30 ∧ inR a 9 = true ∧ inR b 9 = true ∧ inR d 9 = true := by
  unfold codeB at h
  cases hi : isB p r k c n q with
  | false => rw [hi] at h; cases h
  | true =>
    rw [hi] at h
    obtain ⟨h1, h2, h3, h4, h5, _⟩ := isB_sizes hi
    obtain ⟨_, a2, a3⟩ := mul9 h2 h3
    obtain ⟨_, b2, b3⟩ := mul9 h3 h4
    obtain ⟨_, c2, c3⟩ := mul9 h2 h4
    rw [a3, b3, c3] at h
    simp only [cond_true] at h
    cases hr : inR a (r * k) && (inR b (k * c) && inR d (r * c)) with
    | false => rw [hr] at h; cases h
    | true =>
      simp only [inR, Bool.and_eq_true, decide_eq_true_eq] at hr ⊢
      omega
section
variable (p r k c : Int) (n : Nat) (q : Nat → Nat → Int) (hn : n ≤ maxLen) (hq : ∀ i j, i < n → j < 27 → inB (q i j)) (a : Int) (ha : in64 a) (b : Int) (hb : in64 b) (d : Int) (hd : in64 d)
include hn hq ha hb hd
theorem exactRightSide_law : ∃ new cl, fnK Try.prog (kc (tabOf [e_l01Places, e_equationCode, e_l01Want, e_rightSide, e_toProductS, e_eqProductS])) 40 (rnd [] 40 0) 7 [.agg [I p, I r, I k, I c, .vi .u8 27 n q], I a, I b, I d] done = some (.bool true, new, cl) := by
  refine ⟨[], true, (slawRightSide p r k c n q a b d 0).trans ?_⟩
  rw [left_of hn]
  by_cases hc : (1048576 : Int) - n < 0
  · simp [hc]
  · have h1 : n ≤ 1048576 := by omega
    have hab : (decide (in64 a) && (decide (in64 b) && decide (in64 d))) = true := by simp [ha, hb, hd]
    rw [hab]
    by_cases h0 : codeB (isB p r k c n (canonI n 27 q)) r k c a b d = 0
    · obtain ⟨_, hk, hcc, _⟩ := code0 h0
      simp [hc, h1, chk, h0, hk, hcc, eqPs_refl]
    · simp [hc, h1, chk, h0, eqPs_refl]
theorem exactLeftSide_law : ∃ new cl, fnK Try.prog (kc (tabOf [e_l01Places, e_equationCode, e_l01Sum, e_leftSide, e_toProductS, e_eqProductS])) 40 (rnd [] 40 0) 8 [.agg [I p, I r, I k, I c, .vi .u8 27 n q], I a, I b, I d] done = some (.bool true, new, cl) := by
  refine ⟨[], true, (slawLeftSide p r k c n q a b d 0).trans ?_⟩
  rw [left_of hn]
  by_cases hc : (1048576 : Int) - n < 0
  · simp [hc]
  · have h1 : n ≤ 1048576 := by omega
    have hab : (decide (in64 a) && (decide (in64 b) && decide (in64 d))) = true := by simp [ha, hb, hd]
    rw [hab]
    by_cases h0 : codeB (isB p r k c n (canonI n 27 q)) r k c a b d = 0
    · obtain ⟨hp, hk, hcc, h30, i1, i2, i3⟩ := code0 h0
      simp [hc, h1, chk, h0, hp, h30, i1, i2, i3, eqPs_refl]
    · simp [hc, h1, chk, h0, eqPs_refl]
end
end Go.Proofs.Ytjdciikfbinchaa.Fn
