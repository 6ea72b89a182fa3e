/- The law of SplitProduct, over what its calls tell. -/
import Derived.Test.YtpjhlkidebcllaaFg
import Derived.Test.YtpjhlkidebcllaaFsplit
import Derived.Test.YtpjhlkidebcllaaElSplitProduct
namespace Go.Proofs.Ytpjhlkidebcllaa.Fn
open Go Go.Proofs.Ytpjhlkidebcllaa.Abs
set_option linter.unusedSimpArgs false
set_option linter.unusedVariables false
theorem exactSplitProduct_law (p0 r0 k0 c0 : Int) (n0 : Nat) (q0 : Nat → Nat → Int) (hn0 : n0 ≤ maxLen) (hq0 : ∀ i j, i < n0 → j < 27 → inB (q0 i j)) (a1 : Int) (ha1 : in64 a1) (a2 : Int) (ha2 : in64 a2) (y3 : Nat → Int) (hy3 : ∀ j, j < 9 → inB (y3 j)) : LawOf 12 [.agg [I p0, I r0, I k0, I c0, .vi .u8 27 n0 q0], I a1, I a2, .agg (cellsI .u8 9 y3)] := by
  have hw0 : W (1048576 - (n0 : Int)) = 1048576 - (n0 : Int) := W_of (by unfold maxLen at hn0; omega) (by omega)
  by_cases hc0 : 1048576 - (n0 : Int) < 0
  · exact ⟨[e_toScheme, e_eqScheme, e_heldScheme, e_toForm, leafE ce_specSplitProduct [true, false], leafE ce_implSplitProduct [true, false]], [], [m_markScheme], 40, rnd [] 40 0, _, (by simp [toScheme_ok, eqScheme_ok, heldScheme_ok, toForm_ok, leafE_ok ce_specSplitProduct_ok, leafE_ok ce_implSplitProduct_ok]), none_cok, (by simp [markScheme_ok]), rfl, rfl, (slawSplitProduct_ok p0 r0 k0 c0 n0 q0 a1 a2 y3 0).trans (by
        rw [hw0]
        simp [hc0]; rfl)⟩
  have h10 : n0 ≤ 1048576 := by omega
  have hr0 := rng_canon hq0
  by_cases h0 : codeSplitProduct ⟨p0, r0, k0, c0, n0, canonI n0 27 q0⟩ a1 a2 (pA y3) = 0
  · have hm := mSplitProduct_fact h0
    have h3 : ¬ ((1 : Int) + 27 * ((resSplitProduct ⟨p0, r0, k0, c0, n0, canonI n0 27 q0⟩ a1 a2 (pA y3)).n : Int) < 0) := by omega
    obtain ⟨N, hN⟩ : ∃ N, (resSplitProduct ⟨p0, r0, k0, c0, n0, canonI n0 27 q0⟩ a1 a2 (pA y3)).n = N := ⟨_, rfl⟩
    rw [hN] at hm h3
    exact ⟨[e_toScheme, e_eqScheme, e_heldScheme, e_toForm, leafE ce_specSplitProduct [true, false], leafE ce_implSplitProduct [true, false]], [], [m_markScheme], 40, rnd [] 40 0, _, (by simp [toScheme_ok, eqScheme_ok, heldScheme_ok, toForm_ok, leafE_ok ce_specSplitProduct_ok, leafE_ok ce_implSplitProduct_ok]), none_cok, (by simp [markScheme_ok]), rfl, rfl, (slawSplitProduct_ok p0 r0 k0 c0 n0 q0 a1 a2 y3 0).trans (by
        rw [hw0]
        simp only [resSplitProduct, rng9_of hy3] at hN; (try simp only [hN]); (try simp only [hN] at h0); (try simp only [hN] at hc0); (try simp only [hN] at h10); (try simp only [hN] at hr0); simp [hc0, h10, hr0, h0, hm, h3, chk, eqS_rfl, eqS_none, held_mark, resSplitProduct, rng9_of hy3]; rfl)⟩
  · exact ⟨[e_toScheme, e_eqScheme, e_heldScheme, e_toForm, leafE ce_specSplitProduct [false], leafE ce_implSplitProduct [false]], [], [m_markScheme], 40, rnd [] 40 0, _, (by simp [toScheme_ok, eqScheme_ok, heldScheme_ok, toForm_ok, leafE_ok ce_specSplitProduct_ok, leafE_ok ce_implSplitProduct_ok]), none_cok, (by simp [markScheme_ok]), rfl, rfl, (slawSplitProduct_er p0 r0 k0 c0 n0 q0 a1 a2 y3 0).trans (by
        rw [hw0]
        simp [hc0, h10, hr0, h0, chk, eqS_rfl, eqS_none]; rfl)⟩
end Go.Proofs.Ytpjhlkidebcllaa.Fn
