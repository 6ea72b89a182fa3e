/- What is told of the comparison of products is so. -/
import Derived.Test.YthbmlioknnhleaaFa
import Derived.Test.YthbmlioknnhleaaDsort
import Derived.Test.YthbmlioknnhleaaEcmpb
import Derived.Test.YthbmlioknnhleaaEcmpp
namespace Go.Proofs.Ythbmlioknnhleaa.Fn
open Go Go.Proofs.Ythbmlioknnhleaa.Abs
set_option maxRecDepth 100000
set_option linter.unusedVariables false
set_option linter.unusedSimpArgs false
theorem cmpByte_ok : EntOk e_cmpByte := by
  intro vs v new h
  unfold e_cmpByte at h
  simp only at h
  split at h
  · rename_i a b
    simp only [Option.some.injEq, Prod.mk.injEq, true_and] at h
    obtain ⟨rfl, rfl⟩ := h
    refine ent_run none_ok rfl same_weak rfl rfl ((scmpByte a b 0).trans ?_) rfl cleanB_nil
    unfold cmpI
    by_cases h1 : a < b <;> by_cases h2 : b < a <;> simp [h1, h2]
  · cases h
theorem cmpT {c : Bool} {v w : Int} {X : R} (h : X = some (I w, [], true)) : (bif c then some (I v, [], true) else X) = some (I (bif c then v else w), [], true) := by
  subst h
  cases c <;> rfl
theorem cmpBytes_ok : EntOk e_cmpBytes := by
  intro vs v new h
  unfold e_cmpBytes at h
  simp only at h
  split at h
  · rename_i n q m q'
    simp only [Option.some.injEq, Prod.mk.injEq, Bool.and_eq_true, decide_eq_true_eq] at h
    obtain ⟨⟨rfl, rfl⟩, rfl, rfl⟩ := h
    refine ent_run (l := [e_cmpByte]) (by simp [cmpByte_ok]) rfl same_weak rfl rfl ((scmpBytes q q' 0).trans ?_) rfl cleanB_nil
    iterate 9 refine cmpT ?_
    rfl
  · cases h
theorem cmpF_congr {x x' y y' : Nat → Int} : ∀ (d i : Nat), (∀ c, i ≤ c → c < i + d → x c = x' c ∧ y c = y' c) → cmpF x y i d = cmpF x' y' i d
  | 0, i, _ => rfl
  | d + 1, i, h => by
    obtain ⟨h1, h2⟩ := h i (Nat.le_refl _) (by omega)
    simp only [cmpF, h1, h2, cmpF_congr d (i + 1) fun c a b => h c (by omega) (by omega)]
theorem cmpF_shift (x y : Nat → Int) (o : Nat) : ∀ (d i : Nat), cmpF (fun j => x (o + j)) (fun j => y (o + j)) i d = cmpF x y (o + i) d
  | 0, i => rfl
  | d + 1, i => by simp only [cmpF, cmpF_shift x y o d (i + 1), Nat.add_assoc]
theorem cmpF_app (x y : Nat → Int) (e : Nat) : ∀ (d i : Nat), cmpF x y i (d + e) = bif !decide (cmpF x y i d = 0) then cmpF x y i d else cmpF x y (i + d) e
  | 0, i => by simp [cmpF]
  | d + 1, i => by
    rw [show d + 1 + e = (d + e) + 1 by omega]
    simp only [cmpF, cmpF_app x y e d (i + 1)]
    rw [show i + 1 + d = i + (d + 1) by omega]
    by_cases h : cmpI (x i) (y i) = 0
    · simp [h]
    · simp [h]
theorem numAt_cells (x : Nat → Int) {j : Nat} (h : j < 27) : numAt (cellsI .u8 27 x) j = x j := by
  unfold numAt
  rw [cellsI_get, if_pos h]
theorem cmp_part (x y : Nat → Int) (o : Nat) (h : o + 9 ≤ 27) : cmpF (fun i => numAt (cellsI .u8 27 x) (o + i)) (fun i => numAt (cellsI .u8 27 y) (o + i)) 0 9 = cmpF x y o 9 := by
  have e := cmpF_shift x y o 9 0
  rw [Nat.add_zero] at e
  rw [← e]
  exact cmpF_congr 9 0 fun c _ hc => ⟨numAt_cells x (by omega), numAt_cells y (by omega)⟩
theorem compare_ok : EntOk e_compare := by
  intro vs v new h
  unfold e_compare at h
  simp only at h
  split at h
  · simp only [Option.bind_eq_some_iff, Option.map_eq_some_iff, Prod.mk.injEq, true_and] at h
    obtain ⟨l, hl, l', hl', rfl, rfl⟩ := h
    rw [u8s_eq hl, u8s_eq hl']
    refine ent_run (l := [e_cmpBytes]) (by simp [cmpBytes_ok]) rfl same_weak rfl rfl ((scompareP (nthI l) (nthI l') 0).trans ?_) rfl cleanB_nil
    have e : cmpP (nthI l) (nthI l') = bif !decide (cmpF (nthI l) (nthI l') 0 9 = 0) then cmpF (nthI l) (nthI l') 0 9 else bif !decide (cmpF (nthI l) (nthI l') 9 9 = 0) then cmpF (nthI l) (nthI l') 9 9 else bif !decide (cmpF (nthI l) (nthI l') 18 9 = 0) then cmpF (nthI l) (nthI l') 18 9 else 0 := by
      have e1 : cmpP (nthI l) (nthI l') = bif !decide (cmpF (nthI l) (nthI l') 0 9 = 0) then cmpF (nthI l) (nthI l') 0 9 else cmpF (nthI l) (nthI l') 9 18 := cmpF_app (nthI l) (nthI l') 18 9 0
      have e2 : cmpF (nthI l) (nthI l') 9 18 = bif !decide (cmpF (nthI l) (nthI l') 9 9 = 0) then cmpF (nthI l) (nthI l') 9 9 else cmpF (nthI l) (nthI l') 18 9 := cmpF_app (nthI l) (nthI l') 9 9 9
      have e3 : cmpF (nthI l) (nthI l') 18 9 = bif !decide (cmpF (nthI l) (nthI l') 18 9 = 0) then cmpF (nthI l) (nthI l') 18 9 else 0 := by
        by_cases h : cmpF (nthI l) (nthI l') 18 9 = 0
        · simp [h]
        · simp [h]
      rw [e1, e2, ← e3]
    rw [e, ← cmp_part (nthI l) (nthI l') 0 (by omega), ← cmp_part (nthI l) (nthI l') 9 (by omega), ← cmp_part (nthI l) (nthI l') 18 (by omega)]
    exact cmpT (cmpT (cmpT rfl))
  · cases h
/-- less is a strict order, total but for equal cells -/
theorem cmpF_neg (x y : Nat → Int) : ∀ (d i : Nat), decide (cmpF x y i d < 0) = lexF x y i d
  | 0, i => rfl
  | d + 1, i => by
    show decide ((bif !decide (cmpI (x i) (y i) = 0) then cmpI (x i) (y i) else cmpF x y (i + 1) d) < 0) = (bif decide (x i = y i) then lexF x y (i + 1) d else decide (x i < y i))
    by_cases h3 : x i = y i
    · have h0 : cmpI (x i) (y i) = 0 := by unfold cmpI; simp [h3]
      rw [h0, decide_eq_true h3]
      exact cmpF_neg x y d (i + 1)
    · rw [decide_eq_false h3]
      unfold cmpI
      by_cases h1 : x i < y i
      · simp [h1]
      · have h2 : y i < x i := by omega
        simp [h1, h2]
end Go.Proofs.Ythbmlioknnhleaa.Fn
