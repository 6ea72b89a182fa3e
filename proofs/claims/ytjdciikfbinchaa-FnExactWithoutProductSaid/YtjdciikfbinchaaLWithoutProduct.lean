/- The law of WithoutProduct, over what its calls tell. -/
import Derived.Test.YtjdciikfbinchaaFg
import Derived.Test.YtjdciikfbinchaaFe
import Derived.Test.YtjdciikfbinchaaElWithoutProduct
namespace Go.Proofs.Ytjdciikfbinchaa.Fn
open Go Go.Proofs.Ytjdciikfbinchaa.Abs
set_option linter.unusedSimpArgs false
set_option linter.unusedVariables false
theorem exactWithoutProduct_law (p0 r0 k0 c0 : Int) (n0 : Nat) (q0 : Nat → Nat → Int) (hn0 : n0 ≤ maxLen) (hq0 : ∀ i j, i < n0 → j < 27 → inB (q0 i j)) (a1 : Int) (ha1 : in64 a1) : LawOf 14 [.agg [I p0, I r0, I k0, I c0, .vi .u8 27 n0 q0], I a1] := by
  by_cases hc : (1048576 : Int) - n0 < 0
  · exact ⟨[e_toScheme, e_eqScheme, e_heldScheme, leafE ce_specWithoutProduct [true, false], leafE ce_implWithoutProduct [true, false]], [], [m_markScheme], 40, rnd [] 40 0, _, (by simp [toScheme_ok, eqScheme_ok, heldScheme_ok, leafE_ok ce_specWithoutProduct_ok, leafE_ok ce_implWithoutProduct_ok]), none_cok, (by simp [markScheme_ok]), rfl, rfl, (slawWithoutProduct_ok p0 r0 k0 c0 n0 q0 a1 0).trans (by
        rw [left_of hn0]
        simp [hc]; rfl)⟩
  · have h1 : n0 ≤ 1048576 := by omega
    have hr0 := rng_canon hq0
    by_cases h0 : codeWithoutProduct ⟨p0, r0, k0, c0, n0, canonI n0 27 q0⟩ a1 = 0
    · have hm := mWithoutProduct_fact h0
      have h3 : ¬ ((1 : Int) + 27 * ((resWithoutProduct ⟨p0, r0, k0, c0, n0, canonI n0 27 q0⟩ a1).n : Int) < 0) := by omega
      simp only [resWithoutProduct] at hm h3
      by_cases hz : (resWithoutProduct ⟨p0, r0, k0, c0, n0, canonI n0 27 q0⟩ a1).n = 0
      · exact ⟨[e_toScheme, e_eqScheme, e_heldScheme, leafE ce_specWithoutProduct [true, false], leafE ce_implWithoutProduct [true, true]], [], [m_markScheme], 40, rnd [] 40 0, _, (by simp [toScheme_ok, eqScheme_ok, heldScheme_ok, leafE_ok ce_specWithoutProduct_ok, leafE_ok ce_implWithoutProduct_ok]), none_cok, (by simp [markScheme_ok]), rfl, rfl, (slawWithoutProduct_ze p0 r0 k0 c0 n0 q0 a1 0).trans (by
            rw [left_of hn0]
            simp only [resWithoutProduct] at hz; simp [hc, h1, h0, hr0, hm, h3, chk, eqS_rfl, eqS_none, held_mark, resWithoutProduct, hz]; rfl)⟩
      · exact ⟨[e_toScheme, e_eqScheme, e_heldScheme, leafE ce_specWithoutProduct [true, false], leafE ce_implWithoutProduct [true, false]], [], [m_markScheme], 40, rnd [] 40 0, _, (by simp [toScheme_ok, eqScheme_ok, heldScheme_ok, leafE_ok ce_specWithoutProduct_ok, leafE_ok ce_implWithoutProduct_ok]), none_cok, (by simp [markScheme_ok]), rfl, rfl, (slawWithoutProduct_ok p0 r0 k0 c0 n0 q0 a1 0).trans (by
            rw [left_of hn0]
            simp only [resWithoutProduct] at hz; simp [hc, h1, h0, hr0, hm, h3, chk, eqS_rfl, eqS_none, held_mark, resWithoutProduct, hz]; rfl)⟩
    · exact ⟨[e_toScheme, e_eqScheme, e_heldScheme, leafE ce_specWithoutProduct [false], leafE ce_implWithoutProduct [false]], [], [m_markScheme], 40, rnd [] 40 0, _, (by simp [toScheme_ok, eqScheme_ok, heldScheme_ok, leafE_ok ce_specWithoutProduct_ok, leafE_ok ce_implWithoutProduct_ok]), none_cok, (by simp [markScheme_ok]), rfl, rfl, (slawWithoutProduct_er p0 r0 k0 c0 n0 q0 a1 0).trans (by
          rw [left_of hn0]
          simp [hc, h1, h0, chk, eqS_rfl, eqS_none]; rfl)⟩
end Go.Proofs.Ytjdciikfbinchaa.Fn
