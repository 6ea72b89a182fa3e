/- The law of FlipProducts, over what its calls tell. -/
import Derived.Test.YtpjhlkidebcllaaFg
import Derived.Test.YtpjhlkidebcllaaFflip
import Derived.Test.YtpjhlkidebcllaaElFlipProducts
namespace Go.Proofs.Ytpjhlkidebcllaa.Fn
open Go Go.Proofs.Ytpjhlkidebcllaa.Abs
set_option linter.unusedSimpArgs false
set_option linter.unusedVariables false
theorem exactFlipProducts_law (p0 r0 k0 c0 : Int) (n0 : Nat) (q0 : Nat → Nat → Int) (hn0 : n0 ≤ maxLen) (hq0 : ∀ i j, i < n0 → j < 27 → inB (q0 i j)) (a1 : Int) (ha1 : in64 a1) (a2 : Int) (ha2 : in64 a2) (a3 : Int) (ha3 : in64 a3) (a4 : Int) (ha4 : in64 a4) : LawOf 13 [.agg [I p0, I r0, I k0, I c0, .vi .u8 27 n0 q0], I a1, I a2, I a3, I a4] := by
  have hw0 : W (1048576 - (n0 : Int)) = 1048576 - (n0 : Int) := W_of (by unfold maxLen at hn0; omega) (by omega)
  by_cases hc0 : 1048576 - (n0 : Int) < 0
  · exact ⟨[e_toScheme, e_eqScheme, e_heldScheme, leafE ce_specFlipProducts [true, false], leafE ce_implFlipProducts [true]], [], [m_markSchemeC], 40, rnd [] 40 0, _, (by simp [toScheme_ok, eqScheme_ok, heldScheme_ok, leafE_ok ce_specFlipProducts_ok, leafE_ok ce_implFlipProducts_ok]), none_cok, (by simp [markSchemeC_ok]), rfl, rfl, (slawFlipProducts_ok p0 r0 k0 c0 n0 q0 a1 a2 a3 a4 0).trans (by
        rw [hw0]
        simp [hc0]; rfl)⟩
  have h10 : n0 ≤ 1048576 := by omega
  have hr0 := rng_canon hq0
  by_cases h0 : codeFlipProducts ⟨p0, r0, k0, c0, n0, canonI n0 27 q0⟩ a1 a2 a3 a4 = 0
  · have hm := mFlipProducts_fact h0
    have h3 : ¬ ((1 : Int) + 27 * ((resFlipProducts ⟨p0, r0, k0, c0, n0, canonI n0 27 q0⟩ a1 a2 a3 a4).n : Int) < 0) := by omega
    obtain ⟨N, hN⟩ : ∃ N, (resFlipProducts ⟨p0, r0, k0, c0, n0, canonI n0 27 q0⟩ a1 a2 a3 a4).n = N := ⟨_, rfl⟩
    obtain ⟨hr1, hr2⟩ := mFlipProducts_room h0
    rw [hN] at hm h3 hr1
    exact ⟨[e_toScheme, e_eqScheme, e_heldScheme, leafE ce_specFlipProducts [true, false], leafE ce_implFlipProducts [true]], [], [m_markSchemeC], 40, rnd [] 40 0, _, (by simp [toScheme_ok, eqScheme_ok, heldScheme_ok, leafE_ok ce_specFlipProducts_ok, leafE_ok ce_implFlipProducts_ok]), none_cok, (by simp [markSchemeC_ok]), rfl, rfl, (slawFlipProducts_ok p0 r0 k0 c0 n0 q0 a1 a2 a3 a4 0).trans (by
        rw [hw0]
        simp only [resFlipProducts] at hN; (try simp only [hN]); (try simp only [hN] at h0); (try simp only [hN] at hc0); (try simp only [hN] at h10); (try simp only [hN] at hr0); simp [hc0, h10, hr0, h0, hm, h3, chk, eqS_rfl, eqS_none, held_mC, canon_room, hr1, hr2, resFlipProducts]; rfl)⟩
  · exact ⟨[e_toScheme, e_eqScheme, e_heldScheme, leafE ce_specFlipProducts [false], leafE ce_implFlipProducts [false]], [], [m_markSchemeC], 40, rnd [] 40 0, _, (by simp [toScheme_ok, eqScheme_ok, heldScheme_ok, leafE_ok ce_specFlipProducts_ok, leafE_ok ce_implFlipProducts_ok]), none_cok, (by simp [markSchemeC_ok]), rfl, rfl, (slawFlipProducts_er p0 r0 k0 c0 n0 q0 a1 a2 a3 a4 0).trans (by
        rw [hw0]
        simp [hc0, h10, hr0, h0, chk, eqS_rfl, eqS_none]; rfl)⟩
end Go.Proofs.Ytpjhlkidebcllaa.Fn
