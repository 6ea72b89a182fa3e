/- The law of StandardScheme, over what its calls tell. -/
import Derived.Test.YtjdciikfbinchaaFg
import Derived.Test.YtjdciikfbinchaaFstd
import Derived.Test.YtjdciikfbinchaaElStandardScheme
namespace Go.Proofs.Ytjdciikfbinchaa.Fn
open Go Go.Proofs.Ytjdciikfbinchaa.Abs
set_option linter.unusedSimpArgs false
set_option linter.unusedVariables false
theorem exactStandardScheme_law (a0 : Int) (ha0 : in64 a0) (a1 : Int) (ha1 : in64 a1) (a2 : Int) (ha2 : in64 a2) (a3 : Int) (ha3 : in64 a3) : LawOf 4 [I a0, I a1, I a2, I a3] := by
  by_cases h0 : codeStandardScheme a0 a1 a2 a3 = 0
  · have hm := mStandardScheme_fact h0
    have h3 : ¬ ((1 : Int) + 27 * ((resStandardScheme a0 a1 a2 a3).n : Int) < 0) := by omega
    obtain ⟨N, hN⟩ : ∃ N, (resStandardScheme a0 a1 a2 a3).n = N := ⟨_, rfl⟩
    rw [hN] at hm h3
    exact ⟨[e_eqScheme, e_heldScheme, leafE ce_specStandardScheme [true, false], leafE ce_implStandardScheme [true, false]], [], [m_markScheme], 40, rnd [] 40 0, _, (by simp [eqScheme_ok, heldScheme_ok, leafE_ok ce_specStandardScheme_ok, leafE_ok ce_implStandardScheme_ok]), none_cok, (by simp [markScheme_ok]), rfl, rfl, (slawStandardScheme_ok a0 a1 a2 a3 0).trans (by
        simp only [resStandardScheme] at hN; (try simp only [hN]); simp [h0, hm, h3, chk, eqS_rfl, eqS_none, held_mark, resStandardScheme]; rfl)⟩
  · exact ⟨[e_eqScheme, e_heldScheme, leafE ce_specStandardScheme [false], leafE ce_implStandardScheme [false]], [], [m_markScheme], 40, rnd [] 40 0, _, (by simp [eqScheme_ok, heldScheme_ok, leafE_ok ce_specStandardScheme_ok, leafE_ok ce_implStandardScheme_ok]), none_cok, (by simp [markScheme_ok]), rfl, rfl, (slawStandardScheme_er a0 a1 a2 a3 0).trans (by
        simp [h0, chk, eqS_rfl, eqS_none]; rfl)⟩
end Go.Proofs.Ytjdciikfbinchaa.Fn
