/- The law of AddProduct, over what its calls tell. -/
import Derived.Test.YtjdciikfbinchaaFg
import Derived.Test.YtjdciikfbinchaaFadd
import Derived.Test.YtjdciikfbinchaaElAddProduct
namespace Go.Proofs.Ytjdciikfbinchaa.Fn
open Go Go.Proofs.Ytjdciikfbinchaa.Abs
set_option linter.unusedSimpArgs false
set_option linter.unusedVariables false
theorem exactAddProduct_law (p0 r0 k0 c0 : Int) (n0 : Nat) (q0 : Nat → Nat → Int) (hn0 : n0 ≤ maxLen) (hq0 : ∀ i j, i < n0 → j < 27 → inB (q0 i j)) (y1 : Nat → Int) (hy1 : ∀ j, j < 27 → inB (y1 j)) : LawOf 12 [.agg [I p0, I r0, I k0, I c0, .vi .u8 27 n0 q0], .agg (cellsI .u8 27 y1)] := by
  by_cases hc : (1048576 : Int) - n0 < 0
  · exact ⟨[e_toScheme, e_eqScheme, e_heldScheme, e_toProduct, leafE ce_specAddProduct [true, false], leafE ce_implAddProduct [true, false]], [], [m_markScheme], 40, rnd [] 40 0, _, (by simp [toScheme_ok, eqScheme_ok, heldScheme_ok, toProduct_ok, leafE_ok ce_specAddProduct_ok, leafE_ok ce_implAddProduct_ok]), none_cok, (by simp [markScheme_ok]), rfl, rfl, (slawAddProduct_ok p0 r0 k0 c0 n0 q0 y1 0).trans (by
        rw [left_of hn0]
        simp [hc]; rfl)⟩
  · have h1 : n0 ≤ 1048576 := by omega
    have hr0 := rng_canon hq0
    by_cases h0 : codeAddProduct ⟨p0, r0, k0, c0, n0, canonI n0 27 q0⟩ (nthI (intsFrom y1 0 27)) = 0
    · have hm := mAddProduct_fact h0
      have h3 : ¬ ((1 : Int) + 27 * ((resAddProduct ⟨p0, r0, k0, c0, n0, canonI n0 27 q0⟩ (nthI (intsFrom y1 0 27))).n : Int) < 0) := by omega
      simp only [resAddProduct] at hm h3
      exact ⟨[e_toScheme, e_eqScheme, e_heldScheme, e_toProduct, leafE ce_specAddProduct [true, false], leafE ce_implAddProduct [true, false]], [], [m_markScheme], 40, rnd [] 40 0, _, (by simp [toScheme_ok, eqScheme_ok, heldScheme_ok, toProduct_ok, leafE_ok ce_specAddProduct_ok, leafE_ok ce_implAddProduct_ok]), none_cok, (by simp [markScheme_ok]), rfl, rfl, (slawAddProduct_ok p0 r0 k0 c0 n0 q0 y1 0).trans (by
          rw [left_of hn0]
          simp [hc, h1, h0, hr0, hm, h3, chk, eqS_rfl, eqS_none, held_mark, resAddProduct, nn_canon]; rfl)⟩
    · exact ⟨[e_toScheme, e_eqScheme, e_heldScheme, e_toProduct, leafE ce_specAddProduct [false], leafE ce_implAddProduct [false]], [], [m_markScheme], 40, rnd [] 40 0, _, (by simp [toScheme_ok, eqScheme_ok, heldScheme_ok, toProduct_ok, leafE_ok ce_specAddProduct_ok, leafE_ok ce_implAddProduct_ok]), none_cok, (by simp [markScheme_ok]), rfl, rfl, (slawAddProduct_er p0 r0 k0 c0 n0 q0 y1 0).trans (by
          rw [left_of hn0]
          simp [hc, h1, h0, chk, eqS_rfl, eqS_none]; rfl)⟩
end Go.Proofs.Ytjdciikfbinchaa.Fn
