/- Words for loops that keep or build products. -/
import Derived.Test.YthbmlioknnhleaaDg
namespace Go.Proofs.Ythbmlioknnhleaa.Fn
open Go Go.Proofs.Ythbmlioknnhleaa.Abs
set_option linter.unusedVariables false
/-- of i, i + 1, .. (d of them) those that are kept -/
def keepL (b : Nat → Bool) : Nat → Nat → List Nat
  | _, 0 => []
  | i, d + 1 => bif b i then i :: keepL b (i + 1) d else keepL b (i + 1) d
theorem keepL_len (b : Nat → Bool) : ∀ (d i : Nat), (keepL b i d).length ≤ d
  | 0, i => Nat.le_refl _
  | d + 1, i => by
    have := keepL_len b d (i + 1)
    cases h : b i <;> simp [keepL, h] <;> omega
theorem keepL_congr {b b' : Nat → Bool} : ∀ (d i : Nat), (∀ j, i ≤ j → j < i + d → b j = b' j) → keepL b i d = keepL b' i d
  | 0, i, _ => rfl
  | d + 1, i, h => by
    simp only [keepL]
    rw [h i (Nat.le_refl _) (by omega), keepL_congr d (i + 1) fun j h1 h2 => h j (by omega) (by omega)]
theorem keepL_mem {b : Nat → Bool} : ∀ (d i : Nat) {j : Nat}, j ∈ keepL b i d → i ≤ j ∧ j < i + d ∧ b j = true
  | 0, i, j, h => by cases h
  | d + 1, i, j, h => by
    simp only [keepL] at h
    cases hb : b i <;> simp only [hb, cond_true, cond_false] at h
    · obtain ⟨h1, h2, h3⟩ := keepL_mem d (i + 1) h
      exact ⟨by omega, by omega, h3⟩
    · rcases List.mem_cons.1 h with rfl | h
      · exact ⟨Nat.le_refl _, by omega, hb⟩
      · obtain ⟨h1, h2, h3⟩ := keepL_mem d (i + 1) h
        exact ⟨by omega, by omega, h3⟩
theorem keepL_all {b : Nat → Bool} : ∀ (d i : Nat), (∀ j, i ≤ j → j < i + d → b j = true) → (keepL b i d).length = d ∧ ∀ a, a < d → (keepL b i d).getD a 0 = i + a
  | 0, i, _ => ⟨rfl, fun a h => by omega⟩
  | d + 1, i, h => by
    obtain ⟨h1, h2⟩ := keepL_all d (i + 1) fun j h1 h2 => h j (by omega) (by omega)
    simp only [keepL, h i (Nat.le_refl _) (by omega), cond_true]
    refine ⟨by simp [h1], fun a ha => ?_⟩
    cases a with
    | zero => rfl
    | succ a => simp only [List.getD_cons_succ]; rw [h2 a (by omega)]; omega
theorem filt_tree (x y z : Bool) (S A : R) : (bif x then S else bif y then S else bif !z then A else S) = bif (!x && (!y && !z)) then A else S := by cases x <;> cases y <;> cases z <;> rfl
theorem filt_tree2 (x y z : Bool) (S A : R) : (bif !x then (bif !y then (bif !z then A else S) else S) else S) = bif (!x && (!y && !z)) then A else S := by cases x <;> cases y <;> cases z <;> rfl
/-- what a run comes to: a value, and one block of n products, told cell by cell -/
def Gives (v : AV) (n : Nat) (q : Nat → Nat → Int) (X : R) : Prop := ∃ q', X = some (v, [⟨tProduct, 27, .ints .u8 27 n q'⟩], true) ∧ ∀ a c, a < n → c < 27 → q a c = q' a c
theorem Gives.congr {v : AV} {n : Nat} {q q2 : Nat → Nat → Int} {X : R} (h : Gives v n q X) (hq : ∀ a c, a < n → c < 27 → q2 a c = q a c) : Gives v n q2 X := by
  obtain ⟨q', h1, h2⟩ := h
  exact ⟨q', h1, fun a c ha hc => (hq a c ha hc).trans (h2 a c ha hc)⟩
theorem getD_app {l : List Nat} {i a : Nat} (h : a < (l ++ [i]).length) : (l ++ [i]).getD a 0 = if a < l.length then l.getD a 0 else i := by
  by_cases h' : a < l.length
  · simp [h', List.getD_eq_getElem?_getD, List.getElem?_append_left h']
  · have : a = l.length := by simp at h; omega
    subst this
    simp [List.getD_eq_getElem?_getD]
end Go.Proofs.Ythbmlioknnhleaa.Fn
