/- The law of MultiplySchemes, over what its calls tell. -/
import Derived.Test.YtpjhlkidebcllaaFg
import Derived.Test.YtpjhlkidebcllaaFmul
import Derived.Test.YtpjhlkidebcllaaElMultiplySchemes
namespace Go.Proofs.Ytpjhlkidebcllaa.Fn
open Go Go.Proofs.Ytpjhlkidebcllaa.Abs
set_option linter.unusedSimpArgs false
set_option linter.unusedVariables false
theorem exactMultiplySchemes_law (p0 r0 k0 c0 : Int) (n0 : Nat) (q0 : Nat → Nat → Int) (hn0 : n0 ≤ maxLen) (hq0 : ∀ i j, i < n0 → j < 27 → inB (q0 i j)) (p1 r1 k1 c1 : Int) (n1 : Nat) (q1 : Nat → Nat → Int) (hn1 : n1 ≤ maxLen) (hq1 : ∀ i j, i < n1 → j < 27 → inB (q1 i j)) : LawOf 4 [.agg [I p0, I r0, I k0, I c0, .vi .u8 27 n0 q0], .agg [I p1, I r1, I k1, I c1, .vi .u8 27 n1 q1]] := by
  have hw0 : W (1048576 - (n0 : Int)) = 1048576 - (n0 : Int) := W_of (by unfold maxLen at hn0; omega) (by omega)
  by_cases hc0 : 1048576 - (n0 : Int) < 0
  · exact ⟨[e_toScheme, e_eqScheme, e_heldScheme, leafE ce_specMultiplySchemes [true, false], leafE ce_implMultiplySchemes [true, false]], [], [m_markScheme], 40, rnd [] 40 0, _, (by simp [toScheme_ok, eqScheme_ok, heldScheme_ok, leafE_ok ce_specMultiplySchemes_ok, leafE_ok ce_implMultiplySchemes_ok]), none_cok, (by simp [markScheme_ok]), rfl, rfl, (slawMultiplySchemes_ok p0 r0 k0 c0 n0 q0 p1 r1 k1 c1 n1 q1 0).trans (by
        rw [hw0]
        simp [hc0]; rfl)⟩
  have hw1 : W ((1048576 - (n0 : Int)) - (n1 : Int)) = (1048576 - (n0 : Int)) - (n1 : Int) := W_of (by unfold maxLen at hn1; omega) (by omega)
  by_cases hc1 : (1048576 - (n0 : Int)) - (n1 : Int) < 0
  · exact ⟨[e_toScheme, e_eqScheme, e_heldScheme, leafE ce_specMultiplySchemes [true, false], leafE ce_implMultiplySchemes [true, false]], [], [m_markScheme], 40, rnd [] 40 0, _, (by simp [toScheme_ok, eqScheme_ok, heldScheme_ok, leafE_ok ce_specMultiplySchemes_ok, leafE_ok ce_implMultiplySchemes_ok]), none_cok, (by simp [markScheme_ok]), rfl, rfl, (slawMultiplySchemes_ok p0 r0 k0 c0 n0 q0 p1 r1 k1 c1 n1 q1 0).trans (by
        rw [hw0, hw1]
        simp [hc0, hc1]; rfl)⟩
  have h10 : n0 ≤ 1048576 := by omega
  have hr0 := rng_canon hq0
  have h11 : n1 ≤ 1048576 := by omega
  have hr1 := rng_canon hq1
  have hk1 : (1 : Int) + 27 * (n0 : Int) ≤ 1099511627776 := by omega
  by_cases h0 : codeMultiplySchemes ⟨p0, r0, k0, c0, n0, canonI n0 27 q0⟩ ⟨p1, r1, k1, c1, n1, canonI n1 27 q1⟩ = 0
  · have hm := mMultiplySchemes_fact h0
    have h3 : ¬ ((1 : Int) + 27 * ((resMultiplySchemes ⟨p0, r0, k0, c0, n0, canonI n0 27 q0⟩ ⟨p1, r1, k1, c1, n1, canonI n1 27 q1⟩).n : Int) < 0) := by omega
    obtain ⟨N, hN⟩ : ∃ N, (resMultiplySchemes ⟨p0, r0, k0, c0, n0, canonI n0 27 q0⟩ ⟨p1, r1, k1, c1, n1, canonI n1 27 q1⟩).n = N := ⟨_, rfl⟩
    rw [hN] at hm h3
    by_cases hz : (resMultiplySchemes ⟨p0, r0, k0, c0, n0, canonI n0 27 q0⟩ ⟨p1, r1, k1, c1, n1, canonI n1 27 q1⟩).n = 0
    · exact ⟨[e_toScheme, e_eqScheme, e_heldScheme, leafE ce_specMultiplySchemes [true, true], leafE ce_implMultiplySchemes [true, true]], [], [m_markScheme], 40, rnd [] 40 0, _, (by simp [toScheme_ok, eqScheme_ok, heldScheme_ok, leafE_ok ce_specMultiplySchemes_ok, leafE_ok ce_implMultiplySchemes_ok]), none_cok, (by simp [markScheme_ok]), rfl, rfl, (slawMultiplySchemes_ze p0 r0 k0 c0 n0 q0 p1 r1 k1 c1 n1 q1 0).trans (by
          rw [hw0, hw1]
          simp only [resMultiplySchemes] at hz; (try simp only [hz] at h0); (try simp only [hz] at hc0); (try simp only [hz] at h10); (try simp only [hz] at hr0); (try simp only [hz] at hc1); (try simp only [hz] at h11); (try simp only [hz] at hr1); simp [hc0, hc1, h10, hr0, h11, hr1, hk1, h0, chk, eqS_rfl, eqS_none, held_mark, resMultiplySchemes, hz]; rfl)⟩
    · exact ⟨[e_toScheme, e_eqScheme, e_heldScheme, leafE ce_specMultiplySchemes [true, false], leafE ce_implMultiplySchemes [true, false]], [], [m_markScheme], 40, rnd [] 40 0, _, (by simp [toScheme_ok, eqScheme_ok, heldScheme_ok, leafE_ok ce_specMultiplySchemes_ok, leafE_ok ce_implMultiplySchemes_ok]), none_cok, (by simp [markScheme_ok]), rfl, rfl, (slawMultiplySchemes_ok p0 r0 k0 c0 n0 q0 p1 r1 k1 c1 n1 q1 0).trans (by
          rw [hw0, hw1]
          rw [hN] at hz; simp only [resMultiplySchemes] at hN; (try simp only [hN]); (try simp only [hN] at h0); (try simp only [hN] at hc0); (try simp only [hN] at h10); (try simp only [hN] at hr0); (try simp only [hN] at hc1); (try simp only [hN] at h11); (try simp only [hN] at hr1); simp [hc0, hc1, h10, hr0, h11, hr1, hk1, h0, hm, h3, chk, eqS_rfl, eqS_none, held_mark, resMultiplySchemes, hz]; rfl)⟩
  · exact ⟨[e_toScheme, e_eqScheme, e_heldScheme, leafE ce_specMultiplySchemes [false], leafE ce_implMultiplySchemes [false]], [], [m_markScheme], 40, rnd [] 40 0, _, (by simp [toScheme_ok, eqScheme_ok, heldScheme_ok, leafE_ok ce_specMultiplySchemes_ok, leafE_ok ce_implMultiplySchemes_ok]), none_cok, (by simp [markScheme_ok]), rfl, rfl, (slawMultiplySchemes_er p0 r0 k0 c0 n0 q0 p1 r1 k1 c1 n1 q1 0).trans (by
        rw [hw0, hw1]
        simp [hc0, hc1, h10, hr0, h11, hr1, hk1, h0, chk, eqS_rfl, eqS_none]; rfl)⟩
end Go.Proofs.Ytpjhlkidebcllaa.Fn
