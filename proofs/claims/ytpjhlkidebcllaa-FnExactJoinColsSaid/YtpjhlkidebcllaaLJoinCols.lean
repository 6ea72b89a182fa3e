/- The law of JoinCols, over what its calls tell. -/
import Derived.Test.YtpjhlkidebcllaaFg
import Derived.Test.YtpjhlkidebcllaaFjoin
import Derived.Test.YtpjhlkidebcllaaElJoinCols
namespace Go.Proofs.Ytpjhlkidebcllaa.Fn
open Go Go.Proofs.Ytpjhlkidebcllaa.Abs
set_option linter.unusedSimpArgs false
set_option linter.unusedVariables false
theorem exactJoinCols_law (p0 r0 k0 c0 : Int) (n0 : Nat) (q0 : Nat → Nat → Int) (hn0 : n0 ≤ maxLen) (hq0 : ∀ i j, i < n0 → j < 27 → inB (q0 i j)) (p1 r1 k1 c1 : Int) (n1 : Nat) (q1 : Nat → Nat → Int) (hn1 : n1 ≤ maxLen) (hq1 : ∀ i j, i < n1 → j < 27 → inB (q1 i j)) : LawOf 8 [.agg [I p0, I r0, I k0, I c0, .vi .u8 27 n0 q0], .agg [I p1, I r1, I k1, I c1, .vi .u8 27 n1 q1]] := by
  have hw0 : W (1048576 - (n0 : Int)) = 1048576 - (n0 : Int) := W_of (by unfold maxLen at hn0; omega) (by omega)
  by_cases hc0 : 1048576 - (n0 : Int) < 0
  · exact ⟨[e_toScheme, e_eqScheme, e_heldScheme, leafE ce_specJoinCols [true, false], leafE ce_implJoinCols [true, false]], [], [m_markScheme], 40, rnd [] 40 0, _, (by simp [toScheme_ok, eqScheme_ok, heldScheme_ok, leafE_ok ce_specJoinCols_ok, leafE_ok ce_implJoinCols_ok]), none_cok, (by simp [markScheme_ok]), rfl, rfl, (slawJoinCols_ok p0 r0 k0 c0 n0 q0 p1 r1 k1 c1 n1 q1 0).trans (by
        rw [hw0]
        simp [hc0]; rfl)⟩
  have hw1 : W ((1048576 - (n0 : Int)) - (n1 : Int)) = (1048576 - (n0 : Int)) - (n1 : Int) := W_of (by unfold maxLen at hn1; omega) (by omega)
  by_cases hc1 : (1048576 - (n0 : Int)) - (n1 : Int) < 0
  · exact ⟨[e_toScheme, e_eqScheme, e_heldScheme, leafE ce_specJoinCols [true, false], leafE ce_implJoinCols [true, false]], [], [m_markScheme], 40, rnd [] 40 0, _, (by simp [toScheme_ok, eqScheme_ok, heldScheme_ok, leafE_ok ce_specJoinCols_ok, leafE_ok ce_implJoinCols_ok]), none_cok, (by simp [markScheme_ok]), rfl, rfl, (slawJoinCols_ok p0 r0 k0 c0 n0 q0 p1 r1 k1 c1 n1 q1 0).trans (by
        rw [hw0, hw1]
        simp [hc0, hc1]; rfl)⟩
  have h10 : n0 ≤ 1048576 := by omega
  have hr0 := rng_canon hq0
  have h11 : n1 ≤ 1048576 := by omega
  have hr1 := rng_canon hq1
  have hk1 : (1 : Int) + 27 * (n0 : Int) ≤ 1099511627776 := by omega
  by_cases h0 : codeJoinCols ⟨p0, r0, k0, c0, n0, canonI n0 27 q0⟩ ⟨p1, r1, k1, c1, n1, canonI n1 27 q1⟩ = 0
  · have hm := mJoinCols_fact h0
    have h3 : ¬ ((1 : Int) + 27 * ((resJoinCols ⟨p0, r0, k0, c0, n0, canonI n0 27 q0⟩ ⟨p1, r1, k1, c1, n1, canonI n1 27 q1⟩).n : Int) < 0) := by omega
    obtain ⟨N, hN⟩ : ∃ N, (resJoinCols ⟨p0, r0, k0, c0, n0, canonI n0 27 q0⟩ ⟨p1, r1, k1, c1, n1, canonI n1 27 q1⟩).n = N := ⟨_, rfl⟩
    rw [hN] at hm h3
    exact ⟨[e_toScheme, e_eqScheme, e_heldScheme, leafE ce_specJoinCols [true, false], leafE ce_implJoinCols [true, false]], [], [m_markScheme], 40, rnd [] 40 0, _, (by simp [toScheme_ok, eqScheme_ok, heldScheme_ok, leafE_ok ce_specJoinCols_ok, leafE_ok ce_implJoinCols_ok]), none_cok, (by simp [markScheme_ok]), rfl, rfl, (slawJoinCols_ok p0 r0 k0 c0 n0 q0 p1 r1 k1 c1 n1 q1 0).trans (by
        rw [hw0, hw1]
        simp only [resJoinCols, resJoin] at hN; (try simp only [hN]); (try simp only [hN] at h0); (try simp only [hN] at hc0); (try simp only [hN] at h10); (try simp only [hN] at hr0); (try simp only [hN] at hc1); (try simp only [hN] at h11); (try simp only [hN] at hr1); simp [hc0, hc1, h10, hr0, h11, hr1, hk1, h0, hm, h3, chk, eqS_rfl, eqS_none, held_mark, resJoinCols, resJoin]; rfl)⟩
  · exact ⟨[e_toScheme, e_eqScheme, e_heldScheme, leafE ce_specJoinCols [false], leafE ce_implJoinCols [false]], [], [m_markScheme], 40, rnd [] 40 0, _, (by simp [toScheme_ok, eqScheme_ok, heldScheme_ok, leafE_ok ce_specJoinCols_ok, leafE_ok ce_implJoinCols_ok]), none_cok, (by simp [markScheme_ok]), rfl, rfl, (slawJoinCols_er p0 r0 k0 c0 n0 q0 p1 r1 k1 c1 n1 q1 0).trans (by
        rw [hw0, hw1]
        simp [hc0, hc1, h10, hr0, h11, hr1, hk1, h0, chk, eqS_rfl, eqS_none]; rfl)⟩
end Go.Proofs.Ytpjhlkidebcllaa.Fn
