/- The law of RestrictScheme, over what its calls tell. -/
import Derived.Test.YtjdciikfbinchaaFg
import Derived.Test.YtjdciikfbinchaaFres
import Derived.Test.YtjdciikfbinchaaElRestrictScheme
namespace Go.Proofs.Ytjdciikfbinchaa.Fn
open Go Go.Proofs.Ytjdciikfbinchaa.Abs
set_option linter.unusedSimpArgs false
set_option linter.unusedVariables false
theorem exactRestrictScheme_law (p0 r0 k0 c0 : Int) (n0 : Nat) (q0 : Nat → Nat → Int) (hn0 : n0 ≤ maxLen) (hq0 : ∀ i j, i < n0 → j < 27 → inB (q0 i j)) (a1 : Int) (ha1 : in64 a1) (a2 : Int) (ha2 : in64 a2) (a3 : Int) (ha3 : in64 a3) : LawOf 13 [.agg [I p0, I r0, I k0, I c0, .vi .u8 27 n0 q0], I a1, I a2, I a3] := by
  by_cases hc : (1048576 : Int) - n0 < 0
  · exact ⟨[e_toScheme, e_eqScheme, e_heldScheme, leafE ce_specRestrictScheme [true, false], leafE ce_implRestrictScheme [true, false]], [], [m_markScheme], 40, rnd [] 40 0, _, (by simp [toScheme_ok, eqScheme_ok, heldScheme_ok, leafE_ok ce_specRestrictScheme_ok, leafE_ok ce_implRestrictScheme_ok]), none_cok, (by simp [markScheme_ok]), rfl, rfl, (slawRestrictScheme_ok p0 r0 k0 c0 n0 q0 a1 a2 a3 0).trans (by
        rw [left_of hn0]
        simp [hc]; rfl)⟩
  · have h1 : n0 ≤ 1048576 := by omega
    have hr0 := rng_canon hq0
    by_cases h0 : codeRestrictScheme ⟨p0, r0, k0, c0, n0, canonI n0 27 q0⟩ a1 a2 a3 = 0
    · have hm := mRestrictScheme_fact h0
      have h3 : ¬ ((1 : Int) + 27 * ((resRestrictScheme ⟨p0, r0, k0, c0, n0, canonI n0 27 q0⟩ a1 a2 a3).n : Int) < 0) := by omega
      simp only [resRestrictScheme] at hm h3
      by_cases hz : (resRestrictScheme ⟨p0, r0, k0, c0, n0, canonI n0 27 q0⟩ a1 a2 a3).n = 0
      · exact ⟨[e_toScheme, e_eqScheme, e_heldScheme, leafE ce_specRestrictScheme [true, true], leafE ce_implRestrictScheme [true, true]], [], [m_markScheme], 40, rnd [] 40 0, _, (by simp [toScheme_ok, eqScheme_ok, heldScheme_ok, leafE_ok ce_specRestrictScheme_ok, leafE_ok ce_implRestrictScheme_ok]), none_cok, (by simp [markScheme_ok]), rfl, rfl, (slawRestrictScheme_ze p0 r0 k0 c0 n0 q0 a1 a2 a3 0).trans (by
            rw [left_of hn0]
            simp only [resRestrictScheme] at hz; simp [hc, h1, h0, hr0, hm, h3, chk, eqS_rfl, eqS_none, held_mark, resRestrictScheme, hz]; rfl)⟩
      · exact ⟨[e_toScheme, e_eqScheme, e_heldScheme, leafE ce_specRestrictScheme [true, false], leafE ce_implRestrictScheme [true, false]], [], [m_markScheme], 40, rnd [] 40 0, _, (by simp [toScheme_ok, eqScheme_ok, heldScheme_ok, leafE_ok ce_specRestrictScheme_ok, leafE_ok ce_implRestrictScheme_ok]), none_cok, (by simp [markScheme_ok]), rfl, rfl, (slawRestrictScheme_ok p0 r0 k0 c0 n0 q0 a1 a2 a3 0).trans (by
            rw [left_of hn0]
            simp only [resRestrictScheme] at hz; simp [hc, h1, h0, hr0, hm, h3, chk, eqS_rfl, eqS_none, held_mark, resRestrictScheme, hz]; rfl)⟩
    · exact ⟨[e_toScheme, e_eqScheme, e_heldScheme, leafE ce_specRestrictScheme [false], leafE ce_implRestrictScheme [false]], [], [m_markScheme], 40, rnd [] 40 0, _, (by simp [toScheme_ok, eqScheme_ok, heldScheme_ok, leafE_ok ce_specRestrictScheme_ok, leafE_ok ce_implRestrictScheme_ok]), none_cok, (by simp [markScheme_ok]), rfl, rfl, (slawRestrictScheme_er p0 r0 k0 c0 n0 q0 a1 a2 a3 0).trans (by
          rw [left_of hn0]
          simp [hc, h1, h0, chk, eqS_rfl, eqS_none]; rfl)⟩
end Go.Proofs.Ytjdciikfbinchaa.Fn
