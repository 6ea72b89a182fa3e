/- What is told of JoinNumber is so, and its law. -/
import Derived.Test.YtjdciikfbinchaaDjn
import Derived.Test.YtjdciikfbinchaaEjn
import Derived.Test.YtjdciikfbinchaaElJoinNumber
namespace Go.Proofs.Ytjdciikfbinchaa.Fn
open Go Go.Proofs.Ytjdciikfbinchaa.Abs
set_option linter.unusedSimpArgs false
set_option linter.unusedVariables false
set_option maxRecDepth 100000
theorem size3 {a : Int} (h : sizeB a = true) : a = 1 ∨ a = 2 ∨ a = 3 := by
  unfold sizeB at h
  simp only [Bool.and_eq_true, decide_eq_true_eq] at h
  omega
theorem jnV_out {a b c : Int} (h : ¬ (sizeB a && (sizeB b && sizeB c)) = true) : jnV a b c = 0 := by
  unfold jnV
  split
  · rename_i y hy
    exfalso
    apply h
    rcases divT_cases hy with ⟨rfl, rfl, rfl, _⟩ | ⟨rfl, rfl, rfl, _⟩ | ⟨rfl, rfl, rfl, _⟩ | ⟨rfl, rfl, rfl, _⟩ | ⟨rfl, rfl, rfl, _⟩ | ⟨rfl, rfl, rfl, _⟩ | ⟨rfl, rfl, rfl, _⟩ | ⟨rfl, rfl, rfl, _⟩ | ⟨rfl, rfl, rfl, _⟩ | ⟨rfl, rfl, rfl, _⟩ | ⟨rfl, rfl, rfl, _⟩ | ⟨rfl, rfl, rfl, _⟩ | ⟨rfl, rfl, rfl, _⟩ | ⟨rfl, rfl, rfl, _⟩ | ⟨rfl, rfl, rfl, _⟩ | ⟨rfl, rfl, rfl, _⟩ | ⟨rfl, rfl, rfl, _⟩ | ⟨rfl, rfl, rfl, _⟩ | ⟨rfl, rfl, rfl, _⟩ | ⟨rfl, rfl, rfl, _⟩ | ⟨rfl, rfl, rfl, _⟩ | ⟨rfl, rfl, rfl, _⟩ | ⟨rfl, rfl, rfl, _⟩ | ⟨rfl, rfl, rfl, _⟩ | ⟨rfl, rfl, rfl, _⟩ | ⟨rfl, rfl, rfl, _⟩ | ⟨rfl, rfl, rfl, _⟩ <;> rfl
  · rfl
theorem implJN_111 : fnK Try.prog (kc (tabOf [e_isSize, e_div 10])) 40 (rnd [] 40 10) 16 [I 1, I 1, I 1] done = some (.tup [I 1, I 0], [], true) := by kernel_rfl
theorem implJN_112 : fnK Try.prog (kc (tabOf [e_isSize, e_div 10])) 40 (rnd [] 40 10) 16 [I 1, I 1, I 2] done = some (.tup [I 2, I 0], [], true) := by kernel_rfl
theorem implJN_121 : fnK Try.prog (kc (tabOf [e_isSize, e_div 10])) 40 (rnd [] 40 10) 16 [I 1, I 2, I 1] done = some (.tup [I 2, I 0], [], true) := by kernel_rfl
theorem implJN_211 : fnK Try.prog (kc (tabOf [e_isSize, e_div 10])) 40 (rnd [] 40 10) 16 [I 2, I 1, I 1] done = some (.tup [I 2, I 0], [], true) := by kernel_rfl
theorem implJN_113 : fnK Try.prog (kc (tabOf [e_isSize, e_div 10])) 40 (rnd [] 40 10) 16 [I 1, I 1, I 3] done = some (.tup [I 3, I 0], [], true) := by kernel_rfl
theorem implJN_122 : fnK Try.prog (kc (tabOf [e_isSize, e_div 10])) 40 (rnd [] 40 10) 16 [I 1, I 2, I 2] done = some (.tup [I 4, I 0], [], true) := by kernel_rfl
theorem implJN_131 : fnK Try.prog (kc (tabOf [e_isSize, e_div 10])) 40 (rnd [] 40 10) 16 [I 1, I 3, I 1] done = some (.tup [I 3, I 0], [], true) := by kernel_rfl
theorem implJN_212 : fnK Try.prog (kc (tabOf [e_isSize, e_div 10])) 40 (rnd [] 40 10) 16 [I 2, I 1, I 2] done = some (.tup [I 4, I 0], [], true) := by kernel_rfl
theorem implJN_221 : fnK Try.prog (kc (tabOf [e_isSize, e_div 10])) 40 (rnd [] 40 10) 16 [I 2, I 2, I 1] done = some (.tup [I 4, I 0], [], true) := by kernel_rfl
theorem implJN_311 : fnK Try.prog (kc (tabOf [e_isSize, e_div 10])) 40 (rnd [] 40 10) 16 [I 3, I 1, I 1] done = some (.tup [I 3, I 0], [], true) := by kernel_rfl
theorem implJN_123 : fnK Try.prog (kc (tabOf [e_isSize, e_div 10])) 40 (rnd [] 40 10) 16 [I 1, I 2, I 3] done = some (.tup [I 6, I 0], [], true) := by kernel_rfl
theorem implJN_132 : fnK Try.prog (kc (tabOf [e_isSize, e_div 10])) 40 (rnd [] 40 10) 16 [I 1, I 3, I 2] done = some (.tup [I 6, I 0], [], true) := by kernel_rfl
theorem implJN_213 : fnK Try.prog (kc (tabOf [e_isSize, e_div 10])) 40 (rnd [] 40 10) 16 [I 2, I 1, I 3] done = some (.tup [I 6, I 0], [], true) := by kernel_rfl
theorem implJN_222 : fnK Try.prog (kc (tabOf [e_isSize, e_div 10])) 40 (rnd [] 40 10) 16 [I 2, I 2, I 2] done = some (.tup [I 7, I 0], [], true) := by kernel_rfl
theorem implJN_231 : fnK Try.prog (kc (tabOf [e_isSize, e_div 10])) 40 (rnd [] 40 10) 16 [I 2, I 3, I 1] done = some (.tup [I 6, I 0], [], true) := by kernel_rfl
theorem implJN_312 : fnK Try.prog (kc (tabOf [e_isSize, e_div 10])) 40 (rnd [] 40 10) 16 [I 3, I 1, I 2] done = some (.tup [I 6, I 0], [], true) := by kernel_rfl
theorem implJN_321 : fnK Try.prog (kc (tabOf [e_isSize, e_div 10])) 40 (rnd [] 40 10) 16 [I 3, I 2, I 1] done = some (.tup [I 6, I 0], [], true) := by kernel_rfl
theorem implJN_133 : fnK Try.prog (kc (tabOf [e_isSize, e_div 10])) 40 (rnd [] 40 10) 16 [I 1, I 3, I 3] done = some (.tup [I 9, I 0], [], true) := by kernel_rfl
theorem implJN_223 : fnK Try.prog (kc (tabOf [e_isSize, e_div 10])) 40 (rnd [] 40 10) 16 [I 2, I 2, I 3] done = some (.tup [I 11, I 0], [], true) := by kernel_rfl
theorem implJN_232 : fnK Try.prog (kc (tabOf [e_isSize, e_div 10])) 40 (rnd [] 40 10) 16 [I 2, I 3, I 2] done = some (.tup [I 11, I 0], [], true) := by kernel_rfl
theorem implJN_313 : fnK Try.prog (kc (tabOf [e_isSize, e_div 10])) 40 (rnd [] 40 10) 16 [I 3, I 1, I 3] done = some (.tup [I 9, I 0], [], true) := by kernel_rfl
theorem implJN_322 : fnK Try.prog (kc (tabOf [e_isSize, e_div 10])) 40 (rnd [] 40 10) 16 [I 3, I 2, I 2] done = some (.tup [I 11, I 0], [], true) := by kernel_rfl
theorem implJN_331 : fnK Try.prog (kc (tabOf [e_isSize, e_div 10])) 40 (rnd [] 40 10) 16 [I 3, I 3, I 1] done = some (.tup [I 9, I 0], [], true) := by kernel_rfl
theorem implJN_233 : fnK Try.prog (kc (tabOf [e_isSize, e_div 10])) 40 (rnd [] 40 10) 16 [I 2, I 3, I 3] done = some (.tup [I 17, I 0], [], true) := by kernel_rfl
theorem implJN_323 : fnK Try.prog (kc (tabOf [e_isSize, e_div 10])) 40 (rnd [] 40 10) 16 [I 3, I 2, I 3] done = some (.tup [I 17, I 0], [], true) := by kernel_rfl
theorem implJN_332 : fnK Try.prog (kc (tabOf [e_isSize, e_div 10])) 40 (rnd [] 40 10) 16 [I 3, I 3, I 2] done = some (.tup [I 17, I 0], [], true) := by kernel_rfl
theorem implJN_333 : fnK Try.prog (kc (tabOf [e_isSize, e_div 10])) 40 (rnd [] 40 10) 16 [I 3, I 3, I 3] done = some (.tup [I 26, I 0], [], true) := by kernel_rfl
theorem implJoinNumber_ok : EntOk e_implJoinNumber := by
  intro vs v new hv
  unfold e_implJoinNumber g_jn at hv
  simp only at hv
  split at hv
  · rename_i a b c
    simp only [Option.some.injEq, Prod.mk.injEq, true_and] at hv
    obtain ⟨rfl, rfl⟩ := hv
    by_cases hs : (sizeB a && (sizeB b && sizeB c)) = true
    · have hs' := hs
      simp only [Bool.and_eq_true] at hs'
      rcases size3 hs'.1 with rfl | rfl | rfl <;> rcases size3 hs'.2.1 with rfl | rfl | rfl <;> rcases size3 hs'.2.2 with rfl | rfl | rfl
      · exact ent_run (l := [e_isSize, e_div 10]) (by simp [isSize_ok, div_ok10]) rfl same_weak rfl rfl implJN_111 rfl cleanB_nil
      · exact ent_run (l := [e_isSize, e_div 10]) (by simp [isSize_ok, div_ok10]) rfl same_weak rfl rfl implJN_112 rfl cleanB_nil
      · exact ent_run (l := [e_isSize, e_div 10]) (by simp [isSize_ok, div_ok10]) rfl same_weak rfl rfl implJN_113 rfl cleanB_nil
      · exact ent_run (l := [e_isSize, e_div 10]) (by simp [isSize_ok, div_ok10]) rfl same_weak rfl rfl implJN_121 rfl cleanB_nil
      · exact ent_run (l := [e_isSize, e_div 10]) (by simp [isSize_ok, div_ok10]) rfl same_weak rfl rfl implJN_122 rfl cleanB_nil
      · exact ent_run (l := [e_isSize, e_div 10]) (by simp [isSize_ok, div_ok10]) rfl same_weak rfl rfl implJN_123 rfl cleanB_nil
      · exact ent_run (l := [e_isSize, e_div 10]) (by simp [isSize_ok, div_ok10]) rfl same_weak rfl rfl implJN_131 rfl cleanB_nil
      · exact ent_run (l := [e_isSize, e_div 10]) (by simp [isSize_ok, div_ok10]) rfl same_weak rfl rfl implJN_132 rfl cleanB_nil
      · exact ent_run (l := [e_isSize, e_div 10]) (by simp [isSize_ok, div_ok10]) rfl same_weak rfl rfl implJN_133 rfl cleanB_nil
      · exact ent_run (l := [e_isSize, e_div 10]) (by simp [isSize_ok, div_ok10]) rfl same_weak rfl rfl implJN_211 rfl cleanB_nil
      · exact ent_run (l := [e_isSize, e_div 10]) (by simp [isSize_ok, div_ok10]) rfl same_weak rfl rfl implJN_212 rfl cleanB_nil
      · exact ent_run (l := [e_isSize, e_div 10]) (by simp [isSize_ok, div_ok10]) rfl same_weak rfl rfl implJN_213 rfl cleanB_nil
      · exact ent_run (l := [e_isSize, e_div 10]) (by simp [isSize_ok, div_ok10]) rfl same_weak rfl rfl implJN_221 rfl cleanB_nil
      · exact ent_run (l := [e_isSize, e_div 10]) (by simp [isSize_ok, div_ok10]) rfl same_weak rfl rfl implJN_222 rfl cleanB_nil
      · exact ent_run (l := [e_isSize, e_div 10]) (by simp [isSize_ok, div_ok10]) rfl same_weak rfl rfl implJN_223 rfl cleanB_nil
      · exact ent_run (l := [e_isSize, e_div 10]) (by simp [isSize_ok, div_ok10]) rfl same_weak rfl rfl implJN_231 rfl cleanB_nil
      · exact ent_run (l := [e_isSize, e_div 10]) (by simp [isSize_ok, div_ok10]) rfl same_weak rfl rfl implJN_232 rfl cleanB_nil
      · exact ent_run (l := [e_isSize, e_div 10]) (by simp [isSize_ok, div_ok10]) rfl same_weak rfl rfl implJN_233 rfl cleanB_nil
      · exact ent_run (l := [e_isSize, e_div 10]) (by simp [isSize_ok, div_ok10]) rfl same_weak rfl rfl implJN_311 rfl cleanB_nil
      · exact ent_run (l := [e_isSize, e_div 10]) (by simp [isSize_ok, div_ok10]) rfl same_weak rfl rfl implJN_312 rfl cleanB_nil
      · exact ent_run (l := [e_isSize, e_div 10]) (by simp [isSize_ok, div_ok10]) rfl same_weak rfl rfl implJN_313 rfl cleanB_nil
      · exact ent_run (l := [e_isSize, e_div 10]) (by simp [isSize_ok, div_ok10]) rfl same_weak rfl rfl implJN_321 rfl cleanB_nil
      · exact ent_run (l := [e_isSize, e_div 10]) (by simp [isSize_ok, div_ok10]) rfl same_weak rfl rfl implJN_322 rfl cleanB_nil
      · exact ent_run (l := [e_isSize, e_div 10]) (by simp [isSize_ok, div_ok10]) rfl same_weak rfl rfl implJN_323 rfl cleanB_nil
      · exact ent_run (l := [e_isSize, e_div 10]) (by simp [isSize_ok, div_ok10]) rfl same_weak rfl rfl implJN_331 rfl cleanB_nil
      · exact ent_run (l := [e_isSize, e_div 10]) (by simp [isSize_ok, div_ok10]) rfl same_weak rfl rfl implJN_332 rfl cleanB_nil
      · exact ent_run (l := [e_isSize, e_div 10]) (by simp [isSize_ok, div_ok10]) rfl same_weak rfl rfl implJN_333 rfl cleanB_nil
    · rw [jnV_out hs]
      have hs0 : (sizeB a && (sizeB b && sizeB c)) = false := by simpa using hs
      unfold jnC
      rw [hs0]
      refine ent_run (l := [e_isSize, e_noDiv]) (by simp [isSize_ok]; exact fun _ _ _ h => by cases h) rfl same_weak rfl rfl ((simplJN a b c 0).trans ?_) rfl cleanB_nil
      exact bifT (by simp [sizesB, primeB, hs0]) _ _
  · cases hv
theorem specJN_111 : fnK Try.prog (kc (tabOf [e_l01Sizes, e_num 10])) 40 (rnd [] 40 10) 15 [I 1, I 1, I 1] done = some (.tup [I 1, I 0], [], true) := by kernel_rfl
theorem specJN_112 : fnK Try.prog (kc (tabOf [e_l01Sizes, e_num 10])) 40 (rnd [] 40 10) 15 [I 1, I 1, I 2] done = some (.tup [I 2, I 0], [], true) := by kernel_rfl
theorem specJN_121 : fnK Try.prog (kc (tabOf [e_l01Sizes, e_num 10])) 40 (rnd [] 40 10) 15 [I 1, I 2, I 1] done = some (.tup [I 2, I 0], [], true) := by kernel_rfl
theorem specJN_211 : fnK Try.prog (kc (tabOf [e_l01Sizes, e_num 10])) 40 (rnd [] 40 10) 15 [I 2, I 1, I 1] done = some (.tup [I 2, I 0], [], true) := by kernel_rfl
theorem specJN_113 : fnK Try.prog (kc (tabOf [e_l01Sizes, e_num 10])) 40 (rnd [] 40 10) 15 [I 1, I 1, I 3] done = some (.tup [I 3, I 0], [], true) := by kernel_rfl
theorem specJN_122 : fnK Try.prog (kc (tabOf [e_l01Sizes, e_num 10])) 40 (rnd [] 40 10) 15 [I 1, I 2, I 2] done = some (.tup [I 4, I 0], [], true) := by kernel_rfl
theorem specJN_131 : fnK Try.prog (kc (tabOf [e_l01Sizes, e_num 10])) 40 (rnd [] 40 10) 15 [I 1, I 3, I 1] done = some (.tup [I 3, I 0], [], true) := by kernel_rfl
theorem specJN_212 : fnK Try.prog (kc (tabOf [e_l01Sizes, e_num 10])) 40 (rnd [] 40 10) 15 [I 2, I 1, I 2] done = some (.tup [I 4, I 0], [], true) := by kernel_rfl
theorem specJN_221 : fnK Try.prog (kc (tabOf [e_l01Sizes, e_num 10])) 40 (rnd [] 40 10) 15 [I 2, I 2, I 1] done = some (.tup [I 4, I 0], [], true) := by kernel_rfl
theorem specJN_311 : fnK Try.prog (kc (tabOf [e_l01Sizes, e_num 10])) 40 (rnd [] 40 10) 15 [I 3, I 1, I 1] done = some (.tup [I 3, I 0], [], true) := by kernel_rfl
theorem specJN_123 : fnK Try.prog (kc (tabOf [e_l01Sizes, e_num 10])) 40 (rnd [] 40 10) 15 [I 1, I 2, I 3] done = some (.tup [I 6, I 0], [], true) := by kernel_rfl
theorem specJN_132 : fnK Try.prog (kc (tabOf [e_l01Sizes, e_num 10])) 40 (rnd [] 40 10) 15 [I 1, I 3, I 2] done = some (.tup [I 6, I 0], [], true) := by kernel_rfl
theorem specJN_213 : fnK Try.prog (kc (tabOf [e_l01Sizes, e_num 10])) 40 (rnd [] 40 10) 15 [I 2, I 1, I 3] done = some (.tup [I 6, I 0], [], true) := by kernel_rfl
theorem specJN_222 : fnK Try.prog (kc (tabOf [e_l01Sizes, e_num 10])) 40 (rnd [] 40 10) 15 [I 2, I 2, I 2] done = some (.tup [I 7, I 0], [], true) := by kernel_rfl
theorem specJN_231 : fnK Try.prog (kc (tabOf [e_l01Sizes, e_num 10])) 40 (rnd [] 40 10) 15 [I 2, I 3, I 1] done = some (.tup [I 6, I 0], [], true) := by kernel_rfl
theorem specJN_312 : fnK Try.prog (kc (tabOf [e_l01Sizes, e_num 10])) 40 (rnd [] 40 10) 15 [I 3, I 1, I 2] done = some (.tup [I 6, I 0], [], true) := by kernel_rfl
theorem specJN_321 : fnK Try.prog (kc (tabOf [e_l01Sizes, e_num 10])) 40 (rnd [] 40 10) 15 [I 3, I 2, I 1] done = some (.tup [I 6, I 0], [], true) := by kernel_rfl
theorem specJN_133 : fnK Try.prog (kc (tabOf [e_l01Sizes, e_num 10])) 40 (rnd [] 40 10) 15 [I 1, I 3, I 3] done = some (.tup [I 9, I 0], [], true) := by kernel_rfl
theorem specJN_223 : fnK Try.prog (kc (tabOf [e_l01Sizes, e_num 10])) 40 (rnd [] 40 10) 15 [I 2, I 2, I 3] done = some (.tup [I 11, I 0], [], true) := by kernel_rfl
theorem specJN_232 : fnK Try.prog (kc (tabOf [e_l01Sizes, e_num 10])) 40 (rnd [] 40 10) 15 [I 2, I 3, I 2] done = some (.tup [I 11, I 0], [], true) := by kernel_rfl
theorem specJN_313 : fnK Try.prog (kc (tabOf [e_l01Sizes, e_num 10])) 40 (rnd [] 40 10) 15 [I 3, I 1, I 3] done = some (.tup [I 9, I 0], [], true) := by kernel_rfl
theorem specJN_322 : fnK Try.prog (kc (tabOf [e_l01Sizes, e_num 10])) 40 (rnd [] 40 10) 15 [I 3, I 2, I 2] done = some (.tup [I 11, I 0], [], true) := by kernel_rfl
theorem specJN_331 : fnK Try.prog (kc (tabOf [e_l01Sizes, e_num 10])) 40 (rnd [] 40 10) 15 [I 3, I 3, I 1] done = some (.tup [I 9, I 0], [], true) := by kernel_rfl
theorem specJN_233 : fnK Try.prog (kc (tabOf [e_l01Sizes, e_num 10])) 40 (rnd [] 40 10) 15 [I 2, I 3, I 3] done = some (.tup [I 17, I 0], [], true) := by kernel_rfl
theorem specJN_323 : fnK Try.prog (kc (tabOf [e_l01Sizes, e_num 10])) 40 (rnd [] 40 10) 15 [I 3, I 2, I 3] done = some (.tup [I 17, I 0], [], true) := by kernel_rfl
theorem specJN_332 : fnK Try.prog (kc (tabOf [e_l01Sizes, e_num 10])) 40 (rnd [] 40 10) 15 [I 3, I 3, I 2] done = some (.tup [I 17, I 0], [], true) := by kernel_rfl
theorem specJN_333 : fnK Try.prog (kc (tabOf [e_l01Sizes, e_num 10])) 40 (rnd [] 40 10) 15 [I 3, I 3, I 3] done = some (.tup [I 26, I 0], [], true) := by kernel_rfl
theorem specJoinNumber_ok : EntOk e_specJoinNumber := by
  intro vs v new hv
  unfold e_specJoinNumber g_jn at hv
  simp only at hv
  split at hv
  · rename_i a b c
    simp only [Option.some.injEq, Prod.mk.injEq, true_and] at hv
    obtain ⟨rfl, rfl⟩ := hv
    by_cases hs : (sizeB a && (sizeB b && sizeB c)) = true
    · have hs' := hs
      simp only [Bool.and_eq_true] at hs'
      rcases size3 hs'.1 with rfl | rfl | rfl <;> rcases size3 hs'.2.1 with rfl | rfl | rfl <;> rcases size3 hs'.2.2 with rfl | rfl | rfl
      · exact ent_run (l := [e_l01Sizes, e_num 10]) (by simp [l01Sizes_ok, num_ok10]) rfl same_weak rfl rfl specJN_111 rfl cleanB_nil
      · exact ent_run (l := [e_l01Sizes, e_num 10]) (by simp [l01Sizes_ok, num_ok10]) rfl same_weak rfl rfl specJN_112 rfl cleanB_nil
      · exact ent_run (l := [e_l01Sizes, e_num 10]) (by simp [l01Sizes_ok, num_ok10]) rfl same_weak rfl rfl specJN_113 rfl cleanB_nil
      · exact ent_run (l := [e_l01Sizes, e_num 10]) (by simp [l01Sizes_ok, num_ok10]) rfl same_weak rfl rfl specJN_121 rfl cleanB_nil
      · exact ent_run (l := [e_l01Sizes, e_num 10]) (by simp [l01Sizes_ok, num_ok10]) rfl same_weak rfl rfl specJN_122 rfl cleanB_nil
      · exact ent_run (l := [e_l01Sizes, e_num 10]) (by simp [l01Sizes_ok, num_ok10]) rfl same_weak rfl rfl specJN_123 rfl cleanB_nil
      · exact ent_run (l := [e_l01Sizes, e_num 10]) (by simp [l01Sizes_ok, num_ok10]) rfl same_weak rfl rfl specJN_131 rfl cleanB_nil
      · exact ent_run (l := [e_l01Sizes, e_num 10]) (by simp [l01Sizes_ok, num_ok10]) rfl same_weak rfl rfl specJN_132 rfl cleanB_nil
      · exact ent_run (l := [e_l01Sizes, e_num 10]) (by simp [l01Sizes_ok, num_ok10]) rfl same_weak rfl rfl specJN_133 rfl cleanB_nil
      · exact ent_run (l := [e_l01Sizes, e_num 10]) (by simp [l01Sizes_ok, num_ok10]) rfl same_weak rfl rfl specJN_211 rfl cleanB_nil
      · exact ent_run (l := [e_l01Sizes, e_num 10]) (by simp [l01Sizes_ok, num_ok10]) rfl same_weak rfl rfl specJN_212 rfl cleanB_nil
      · exact ent_run (l := [e_l01Sizes, e_num 10]) (by simp [l01Sizes_ok, num_ok10]) rfl same_weak rfl rfl specJN_213 rfl cleanB_nil
      · exact ent_run (l := [e_l01Sizes, e_num 10]) (by simp [l01Sizes_ok, num_ok10]) rfl same_weak rfl rfl specJN_221 rfl cleanB_nil
      · exact ent_run (l := [e_l01Sizes, e_num 10]) (by simp [l01Sizes_ok, num_ok10]) rfl same_weak rfl rfl specJN_222 rfl cleanB_nil
      · exact ent_run (l := [e_l01Sizes, e_num 10]) (by simp [l01Sizes_ok, num_ok10]) rfl same_weak rfl rfl specJN_223 rfl cleanB_nil
      · exact ent_run (l := [e_l01Sizes, e_num 10]) (by simp [l01Sizes_ok, num_ok10]) rfl same_weak rfl rfl specJN_231 rfl cleanB_nil
      · exact ent_run (l := [e_l01Sizes, e_num 10]) (by simp [l01Sizes_ok, num_ok10]) rfl same_weak rfl rfl specJN_232 rfl cleanB_nil
      · exact ent_run (l := [e_l01Sizes, e_num 10]) (by simp [l01Sizes_ok, num_ok10]) rfl same_weak rfl rfl specJN_233 rfl cleanB_nil
      · exact ent_run (l := [e_l01Sizes, e_num 10]) (by simp [l01Sizes_ok, num_ok10]) rfl same_weak rfl rfl specJN_311 rfl cleanB_nil
      · exact ent_run (l := [e_l01Sizes, e_num 10]) (by simp [l01Sizes_ok, num_ok10]) rfl same_weak rfl rfl specJN_312 rfl cleanB_nil
      · exact ent_run (l := [e_l01Sizes, e_num 10]) (by simp [l01Sizes_ok, num_ok10]) rfl same_weak rfl rfl specJN_313 rfl cleanB_nil
      · exact ent_run (l := [e_l01Sizes, e_num 10]) (by simp [l01Sizes_ok, num_ok10]) rfl same_weak rfl rfl specJN_321 rfl cleanB_nil
      · exact ent_run (l := [e_l01Sizes, e_num 10]) (by simp [l01Sizes_ok, num_ok10]) rfl same_weak rfl rfl specJN_322 rfl cleanB_nil
      · exact ent_run (l := [e_l01Sizes, e_num 10]) (by simp [l01Sizes_ok, num_ok10]) rfl same_weak rfl rfl specJN_323 rfl cleanB_nil
      · exact ent_run (l := [e_l01Sizes, e_num 10]) (by simp [l01Sizes_ok, num_ok10]) rfl same_weak rfl rfl specJN_331 rfl cleanB_nil
      · exact ent_run (l := [e_l01Sizes, e_num 10]) (by simp [l01Sizes_ok, num_ok10]) rfl same_weak rfl rfl specJN_332 rfl cleanB_nil
      · exact ent_run (l := [e_l01Sizes, e_num 10]) (by simp [l01Sizes_ok, num_ok10]) rfl same_weak rfl rfl specJN_333 rfl cleanB_nil
    · rw [jnV_out hs]
      have hs0 : (sizeB a && (sizeB b && sizeB c)) = false := by simpa using hs
      unfold jnC
      rw [hs0]
      refine ent_run (l := [e_l01Sizes, e_noNum]) (by simp [l01Sizes_ok]; exact fun _ _ _ h => by cases h) rfl same_weak rfl rfl ((sspecJN a b c 0).trans ?_) rfl cleanB_nil
      exact bifT (by simp [sizesB, primeB, hs0]) _ _
  · cases hv
theorem exactJoinNumber_law (a : Int) (ha : in64 a) (b : Int) (hb : in64 b) (c : Int) (hc : in64 c) : LawOf 3 [I a, I b, I c] :=
  ⟨[e_specJoinNumber, e_implJoinNumber], [], [], 40, rnd [] 40 0, _, (by simp [specJoinNumber_ok, implJoinNumber_ok]), none_cok, none_mok, rfl, rfl, (slawJN a b c 0).trans (by simp; rfl)⟩
end Go.Proofs.Ytjdciikfbinchaa.Fn
