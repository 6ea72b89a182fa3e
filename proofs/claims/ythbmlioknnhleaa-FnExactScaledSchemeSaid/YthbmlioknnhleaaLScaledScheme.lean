/- The law of ScaledScheme, over what its calls tell. -/
import Derived.Test.YthbmlioknnhleaaFg
import Derived.Test.YthbmlioknnhleaaFsc
import Derived.Test.YthbmlioknnhleaaElScaledScheme
namespace Go.Proofs.Ythbmlioknnhleaa.Fn
open Go Go.Proofs.Ythbmlioknnhleaa.Abs
set_option linter.unusedSimpArgs false
set_option linter.unusedVariables false
theorem exactScaledScheme_law (p0 r0 k0 c0 : Int) (n0 : Nat) (q0 : Nat → Nat → Int) (hn0 : n0 ≤ maxLen) (hq0 : ∀ i j, i < n0 → j < 27 → inB (q0 i j)) : LawOf 9 [.agg [I p0, I r0, I k0, I c0, .vi .u8 27 n0 q0]] := by
  have hw0 : W (1048576 - (n0 : Int)) = 1048576 - (n0 : Int) := W_of (by unfold maxLen at hn0; omega) (by omega)
  by_cases hc0 : 1048576 - (n0 : Int) < 0
  · exact ⟨[e_toScheme, e_eqScheme, e_heldScheme, leafE ce_specScaledScheme [true, false], leafE ce_implScaledScheme [true, false]], [], [m_markScheme], 40, rnd [] 40 0, _, (by simp [toScheme_ok, eqScheme_ok, heldScheme_ok, leafE_ok ce_specScaledScheme_ok, leafE_ok ce_implScaledScheme_ok]), none_cok, (by simp [markScheme_ok]), rfl, rfl, (slawScaledScheme_ok p0 r0 k0 c0 n0 q0 0).trans (by
        rw [hw0]
        simp [hc0]; rfl)⟩
  have h10 : n0 ≤ 1048576 := by omega
  have hr0 := rng_canon hq0
  by_cases h0 : codeScaledScheme ⟨p0, r0, k0, c0, n0, canonI n0 27 q0⟩ = 0
  · have hm := mScaledScheme_fact h0
    have h3 : ¬ ((1 : Int) + 27 * ((resScaledScheme ⟨p0, r0, k0, c0, n0, canonI n0 27 q0⟩).n : Int) < 0) := by omega
    obtain ⟨N, hN⟩ : ∃ N, (resScaledScheme ⟨p0, r0, k0, c0, n0, canonI n0 27 q0⟩).n = N := ⟨_, rfl⟩
    rw [hN] at hm h3
    exact ⟨[e_toScheme, e_eqScheme, e_heldScheme, leafE ce_specScaledScheme [true, false], leafE ce_implScaledScheme [true, false]], [], [m_markScheme], 40, rnd [] 40 0, _, (by simp [toScheme_ok, eqScheme_ok, heldScheme_ok, leafE_ok ce_specScaledScheme_ok, leafE_ok ce_implScaledScheme_ok]), none_cok, (by simp [markScheme_ok]), rfl, rfl, (slawScaledScheme_ok p0 r0 k0 c0 n0 q0 0).trans (by
        rw [hw0]
        simp only [resScaledScheme] at hN; (try simp only [hN]); (try simp only [hN] at h0); (try simp only [hN] at hc0); (try simp only [hN] at h10); (try simp only [hN] at hr0); simp [hc0, h10, hr0, h0, hm, h3, chk, eqS_rfl, eqS_none, held_mark, resScaledScheme]; rfl)⟩
  · exact ⟨[e_toScheme, e_eqScheme, e_heldScheme, leafE ce_specScaledScheme [false], leafE ce_implScaledScheme [false]], [], [m_markScheme], 40, rnd [] 40 0, _, (by simp [toScheme_ok, eqScheme_ok, heldScheme_ok, leafE_ok ce_specScaledScheme_ok, leafE_ok ce_implScaledScheme_ok]), none_cok, (by simp [markScheme_ok]), rfl, rfl, (slawScaledScheme_er p0 r0 k0 c0 n0 q0 0).trans (by
        rw [hw0]
        simp [hc0, h10, hr0, h0, chk, eqS_rfl, eqS_none]; rfl)⟩
end Go.Proofs.Ythbmlioknnhleaa.Fn
