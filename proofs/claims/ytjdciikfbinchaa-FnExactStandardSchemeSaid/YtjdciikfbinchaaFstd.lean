/- What is told of StandardScheme is so. -/
import Derived.Test.YtjdciikfbinchaaFg
import Derived.Test.YtjdciikfbinchaaFst1
import Derived.Test.YtjdciikfbinchaaFst2
import Derived.Test.YtjdciikfbinchaaEstd
namespace Go.Proofs.Ytjdciikfbinchaa.Fn
open Go Go.Proofs.Ytjdciikfbinchaa.Abs
set_option linter.unusedSimpArgs false
theorem codeStd0 {p n m k : Int} (h : codeStandardScheme p n m k = 0) : sizesB p n m k = true := by
  unfold codeStandardScheme at h
  cases hs : sizesB p n m k with
  | false => rw [hs] at h; cases h
  | true => rfl
theorem mStandardScheme_fact {p n m k : Int} (h : codeStandardScheme p n m k = 0) : (resStandardScheme p n m k).n ≤ 1048576 := by
  have hs := codeStd0 h
  unfold sizesB sizeB at hs
  simp only [Bool.and_eq_true, decide_eq_true_eq] at hs
  obtain ⟨_, h1, h2, h3⟩ := hs
  rcases of3 h1.1 h1.2 with rfl | rfl | rfl <;> rcases of3 h2.1 h2.2 with rfl | rfl | rfl <;> rcases of3 h3.1 h3.2 with rfl | rfl | rfl <;> exact Nat.le_of_ble_eq_true rfl
theorem std_told {f : Nat} {l : List Ent} (hl : ∀ e ∈ l, EntOk e) (hf : tabOf l [] f = none)
    (herr : ∀ p n m k : Int, codeStandardScheme p n m k ≠ 0 → fnK Try.prog (kc (tabOf l)) 40 (rnd [] 40 0) f [I p, I n, I m, I k] done = some (.tup [.agg [I 0, I 0, I 0, I 0, .nilsl], I (codeStandardScheme p n m k)], [], true))
    (hok : ∀ p n m k : Int, codeStandardScheme p n m k = 0 → fnK Try.prog (kc (tabOf l)) 40 (rnd [] 40 0) f [I p, I n, I m, I k] done = some (.tup [.agg [I p, I n, I m, I k, .sl 0 0 (resStandardScheme p n m k).n (resStandardScheme p n m k).n], I 0], [⟨tProduct, 27, .ints .u8 27 (resStandardScheme p n m k).n (resStandardScheme p n m k).q⟩], true)) : CEntOk (f, g_std) := by
  intro vs a h hv
  unfold g_std at h
  simp only at h
  split at h
  · rename_i p n m k
    cases h
    refine sAns_told hv (fun h0 => told_run hl none_cok none_mok rfl same_weak rfl hf rfl (herr p n m k h0) rfl rfl cleanB_nil) (fun _ _ h => by cases h) (fun h0 _ _ => told_run hl none_cok none_mok rfl same_weak rfl hf rfl (hok p n m k h0) rfl rfl (cleanB_ints _ _ _ _ _ _))
  · cases h
theorem ce_specStandardScheme_ok : CEntOk ce_specStandardScheme := by
  refine std_told (l := [e_l01Sizes, e_l01Standard]) (by simp [l01Sizes_ok, l01Standard_ok]) rfl ?_ ?_
  · intro p n m k h0
    refine (sspecStandardScheme p n m k 0).trans ?_
    unfold codeStandardScheme at h0 ⊢
    cases hs : sizesB p n m k with
    | true => rw [hs] at h0; exact absurd rfl h0
    | false => rfl
  · intro p n m k h0
    have hs := codeStd0 h0
    refine (sspecStandardScheme p n m k 0).trans ?_
    rw [hs]
    unfold sizesB at hs
    simp only [Bool.and_eq_true] at hs
    rw [hs.2.1, hs.2.2.1, hs.2.2.2]
    rfl
theorem ce_implStandardScheme_ok : CEntOk ce_implStandardScheme := by
  refine std_told (l := [e_isPrime, e_isSize, e_standard]) (by simp [isPrime_ok, isSize_ok, standard_ok]) rfl ?_ ?_
  · intro p n m k h0
    refine (simplStandardScheme p n m k 0).trans ?_
    unfold codeStandardScheme sizesB at h0 ⊢
    cases h1 : primeB p <;> cases h2 : sizeB n <;> cases h3 : sizeB m <;> cases h4 : sizeB k <;> simp [h1, h2, h3, h4] at h0 ⊢
  · intro p n m k h0
    have hs := codeStd0 h0
    refine (simplStandardScheme p n m k 0).trans ?_
    unfold sizesB at hs
    simp only [Bool.and_eq_true] at hs
    rw [hs.1, hs.2.1, hs.2.2.1, hs.2.2.2]
    rfl
end Go.Proofs.Ytjdciikfbinchaa.Fn
