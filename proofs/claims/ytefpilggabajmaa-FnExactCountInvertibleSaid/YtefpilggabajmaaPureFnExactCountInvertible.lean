import Derived.Test.YtefpilggabajmaaPFnExactCountInvertiblex1
namespace Go.Proofs.Ytefpilggabajmaa.Pure
open Go.RowKit Go.Proofs.Ytefpilggabajmaa.PFnExactCountInvertible Go.Proofs.YtefpilggabajmaaW.PrintWords Go.Proofs.YtefpilggabajmaaW.PrintLast

theorem size_no (n : Int) (h : ¬ (1 ≤ n ∧ n ≤ 3)) : impl_isSize.f 5 [n] = some false := by
  have r0 : rd [n] 0 = n := rfl
  show impl_isSize.l0 (4 + 1) [n] 1 0 = some false
  unfold impl_isSize.l0
  by_cases a : n < 1
  · simp [r0, a]
  · have b : 3 < n := by omega
    simp [r0, a, b]

theorem FnExactCountInvertible : laws_FnExactCountInvertible.Pure := by
  intro p n _ _
  by_cases hp : p = 2 ∨ p = 3 ∨ p = 5
  · by_cases hn : 1 ≤ n ∧ n ≤ 3
    · have hn' : n = 1 ∨ n = 2 ∨ n = 3 := by omega
      refine ⟨20, ?_⟩
      rcases hp with rfl | rfl | rfl <;> rcases hn' with rfl | rfl | rfl <;> decide +kernel
    · refine ⟨5, ?_⟩
      have s := size_no n hn
      have i : spec_l01In.f n 1 3 = some false := by
        unfold spec_l01In.f
        by_cases a : n ≥ 1
        · have b : ¬ n ≤ 3 := by omega
          simp [a, b]
        · simp [a]
      have p1 : spec_l01Prime.f p = some true := by rcases hp with rfl | rfl | rfl <;> rfl
      have p2 : impl_isPrime.f p = some true := by rcases hp with rfl | rfl | rfl <;> rfl
      simp [laws_FnExactCountInvertible.f, spec_CountInvertible.f, impl_CountInvertible.f, p1, p2, i, s, spec_CountInvertible.j0, impl_CountInvertible.j0]
  · refine ⟨5, ?_⟩
    have a2 : ¬ p = 2 := fun h => hp (.inl h)
    have a3 : ¬ p = 3 := fun h => hp (.inr (.inl h))
    have a5 : ¬ p = 5 := fun h => hp (.inr (.inr h))
    have p1 : spec_l01Prime.f p = some false := by simp [spec_l01Prime.f, a2, a3, a5]
    have p2 : impl_isPrime.f p = some false := by simp [impl_isPrime.f, a2, a3, a5]
    simp [laws_FnExactCountInvertible.f, spec_CountInvertible.f, impl_CountInvertible.f, p1, p2, spec_CountInvertible.j0, impl_CountInvertible.j0]

end Go.Proofs.Ytefpilggabajmaa.Pure
