/- What is told of forms, products and schemes is so. -/
import Derived.Test.YthbmlioknnhleaaEa
namespace Go.Proofs.Ythbmlioknnhleaa.Fn
open Go Go.Proofs.Ythbmlioknnhleaa.Abs
set_option maxRecDepth 100000

theorem none_ok : ∀ e ∈ ([] : List Ent), EntOk e := fun _ h => by cases h

/-! ### forms -/
theorem okAt_tree (p n : Int) (q : Nat → Int) (i : Nat) (b : Bool) :
    (bif (decide (p ≤ W (q i))) then some ((AV.bool false), ([] : List KB), true) else bif (decide (n ≤ (i : Int))) then (bif (!decide (q i = 0)) then some ((AV.bool false), [], true) else some (.bool b, [], true)) else some (.bool b, [], true)) = some (.bool (okAt p n q i && b), [], true) := by
  unfold okAt
  cases decide (p ≤ W (q i)) <;> cases decide (n ≤ (i : Int)) <;> cases decide (q i = 0) <;> rfl
theorem l01Form_loop (p n : Int) (q : Nat → Int) (N : Nat) : ∀ (d i m : Nat), i + d = 9 → Ll01Form_2 p n q N (m + d + 1) (i : Int) = some (.bool (allN (okAt p n q) i d), [], true)
  | 0, i, m, h => by
    have h1 : ¬ ((i : Int) < 9) := by omega
    rw [rl01Form_2]
    simp only [h1, decide_false, cond_false, allN]
  | d + 1, i, m, h => by
    have h1 : (i : Int) < 9 := by omega
    have h0 : (0 : Int) ≤ (i : Int) := by omega
    have hi : i < 9 := by omega
    have ih := l01Form_loop p n q N d (i + 1) m (by omega)
    rw [show m + (d + 1) + 1 = (m + d + 1) + 1 by omega, rl01Form_2]
    simp only [toN, Nat.mul_one, Nat.zero_add, h1, h0, hi, and_self, decide_true, cond_true, chk, pA_get q hi, W_succ (show i < 1099511627776 by omega), ih, okAt_tree, allN]
theorem l01Form_c (p n : Int) (q : Nat → Int) : fnK Try.prog (kc (tabOf [])) 40 (rnd [] 40 10) 137 [I p, .agg (cellsI .u8 9 q), I n] done = some (.bool (formB p n q), [], true) := by
  rw [sl01Form]
  exact l01Form_loop p n q 10 9 0 0 rfl
theorem l01Form_ok : EntOk e_l01Form := by
  intro vs v new h
  unfold e_l01Form at h
  simp only at h
  split at h
  · simp only [Option.map_eq_some_iff] at h
    obtain ⟨l, hl, he⟩ := h
    cases he
    rw [u8s_eq hl]
    exact ent_run none_ok rfl same_weak rfl rfl (l01Form_c _ _ _) rfl cleanB_nil
  · cases h

theorem isForm_tree (p n : Int) (q : Nat → Int) (i : Nat) (b : Bool) :
    (bif (decide (p ≤ W (q i))) then some ((AV.bool false), ([] : List KB), true) else bif (!decide (q i = 0)) then (bif (decide (n ≤ (i : Int))) then some ((AV.bool false), [], true) else some (.bool b, [], true)) else some (.bool b, [], true)) = some (.bool (okAt p n q i && b), [], true) := by
  unfold okAt
  cases decide (p ≤ W (q i)) <;> cases decide (n ≤ (i : Int)) <;> cases decide (q i = 0) <;> rfl
theorem isForm_loop (p n : Int) (q : Nat → Int) (N : Nat) : ∀ (d i m : Nat), i + d = 9 → LisForm_2 p n q N (m + d + 1) (i : Int) = some (.bool (allN (okAt p n q) i d), [], true)
  | 0, i, m, h => by
    have h1 : ¬ ((i : Int) < 9) := by omega
    rw [risForm_2]
    simp only [h1, decide_false, cond_false, allN]
  | d + 1, i, m, h => by
    have h1 : (i : Int) < 9 := by omega
    have h0 : (0 : Int) ≤ (i : Int) := by omega
    have hi : i < 9 := by omega
    have ih := isForm_loop p n q N d (i + 1) m (by omega)
    rw [show m + (d + 1) + 1 = (m + d + 1) + 1 by omega, risForm_2]
    simp only [toN, Nat.mul_one, h1, h0, hi, and_self, decide_true, cond_true, chk, pA_get q hi, W_succ (show i < 1099511627776 by omega), ih, isForm_tree, allN]
theorem isForm_c (p n : Int) (q : Nat → Int) : fnK Try.prog (kc (tabOf [])) 40 (rnd [] 40 10) 141 [I p, I n, .agg (cellsI .u8 9 q)] done = some (.bool (formB p n q), [], true) := by
  rw [sisForm]
  exact isForm_loop p n q 10 9 0 0 rfl
theorem isForm_ok : EntOk e_isForm := by
  intro vs v new h
  unfold e_isForm at h
  simp only at h
  split at h
  · simp only [Option.map_eq_some_iff] at h
    obtain ⟨l, hl, he⟩ := h
    cases he
    rw [u8s_eq hl]
    exact ent_run none_ok rfl same_weak rfl rfl (isForm_c _ _ _) rfl cleanB_nil
  · cases h

/-! ### products -/
theorem prods_weak {x : AV} {y : Nat × (Nat → Nat → Int)} (h : prods x = some y) : Weak x (.vi .u8 27 y.1 y.2) := by
  unfold prods at h
  split at h
  · cases h; exact .same _
  · cases h; exact .nil _ _ _ rfl
  · cases h; exact .esl _ _ _ rfl
  · cases h
theorem weak_cons {x x' : AV} {l l' : List AV} (h : Weak x x') (ht : ∀ (j : Nat) (x x' : AV), l[j]? = some x → l'[j]? = some x' → Weak x x') : ∀ (j : Nat) (y y' : AV), (x :: l)[j]? = some y → (x' :: l')[j]? = some y' → Weak y y'
  | 0, y, y', h1, h2 => by simp at h1 h2; subst h1; subst h2; exact h
  | j + 1, y, y', h1, h2 => ht j y y' (by simpa using h1) (by simpa using h2)
theorem weak_nil : ∀ (j : Nat) (x x' : AV), ([] : List AV)[j]? = some x → ([] : List AV)[j]? = some x' → Weak x x' := fun j x x' h => by simp at h
theorem weak_sch {p r k c : Int} {x : AV} {y : Nat × (Nat → Nat → Int)} (h : prods x = some y) : Weak (.agg [I p, I r, I k, I c, x]) (.agg [I p, I r, I k, I c, .vi .u8 27 y.1 y.2]) :=
  .agg rfl (weak_cons (.same _) (weak_cons (.same _) (weak_cons (.same _) (weak_cons (.same _) (weak_cons (prods_weak h) weak_nil)))))

theorem l01Product_c (p r k c : Int) (n : Nat) (y : Nat → Nat → Int) (q : Nat → Int) : fnK Try.prog (kc (tabOf [e_l01Form])) 40 (rnd [] 40 10) 103 [.agg [I p, I r, I k, I c, .vi .u8 27 n y], .agg (cellsI .u8 27 q)] done = some (.bool (prodB p (W (r * k)) (W (k * c)) (W (r * c)) q), [], true) := by
  rw [sl01Product]
  show (bif !formB p (W (r * k)) q then some ((AV.bool false), ([] : List KB), true) else bif !formB p (W (k * c)) (at9 9 q) then some ((AV.bool false), [], true) else bif !formB p (W (r * c)) (at9 18 q) then some ((AV.bool false), [], true) else
    bif !zero9 q then (bif !zero9 (at9 9 q) then some (.bool (!zero9 (at9 18 q)), [], true) else some ((AV.bool false), [], true)) else some ((AV.bool false), [], true)) = _
  unfold prodB
  cases formB p (W (r * k)) q <;> cases formB p (W (k * c)) (at9 9 q) <;> cases formB p (W (r * c)) (at9 18 q) <;> cases zero9 q <;> cases zero9 (at9 9 q) <;> cases zero9 (at9 18 q) <;> rfl
theorem l01Product_ok : EntOk e_l01Product := by
  intro vs v new h
  unfold e_l01Product at h
  simp only at h
  split at h
  · rename_i p r k c x cs
    simp only [Option.bind_eq_some_iff, Option.map_eq_some_iff] at h
    obtain ⟨y, hy, l, hl, he⟩ := h
    cases he
    rw [u8s_eq hl]
    have hw := weak_cons (weak_sch (p := p) (r := r) (k := k) (c := c) hy) (same_weak (vs := [.agg (cellsI .u8 27 (nthI l))]))
    exact ent_run (l := [e_l01Form]) (vs' := [.agg [I p, I r, I k, I c, .vi .u8 27 y.1 y.2], .agg (cellsI .u8 27 (nthI l))]) (by simp [l01Form_ok]) rfl hw rfl rfl (l01Product_c p r k c y.1 y.2 (nthI l)) rfl cleanB_nil
  · cases h
theorem isProduct_c (p a b c : Int) (q : Nat → Int) : fnK Try.prog (kc (tabOf [e_isForm])) 40 (rnd [2] 4 10) 105 [I p, .agg [I a, I b, I c], .agg (cellsI .u8 27 q)] done = some (.bool (prodB p a b c q), [], true) := by
  rw [sisProduct]
  show (bif !formB p a q then some ((AV.bool false), ([] : List KB), true) else bif !formB p b (at9 9 q) then some ((AV.bool false), [], true) else bif !formB p c (at9 18 q) then some ((AV.bool false), [], true) else
    bif zero9 q then some ((AV.bool false), [], true) else bif zero9 (at9 9 q) then some ((AV.bool false), [], true) else some (.bool (!zero9 (at9 18 q)), [], true)) = _
  unfold prodB
  cases formB p a q <;> cases formB p b (at9 9 q) <;> cases formB p c (at9 18 q) <;> cases zero9 q <;> cases zero9 (at9 9 q) <;> cases zero9 (at9 18 q) <;> rfl
theorem isProduct_ok : EntOk e_isProduct := by
  intro vs v new h
  unfold e_isProduct at h
  simp only at h
  split at h
  · simp only [Option.map_eq_some_iff] at h
    obtain ⟨l, hl, he⟩ := h
    cases he
    rw [u8s_eq hl]
    exact ent_run (l := [e_isForm]) (by simp [isForm_ok]) rfl same_weak rfl rfl (isProduct_c _ _ _ _ _) rfl cleanB_nil
  · cases h

/-! ### sizes -/
theorem l01Sizes_ok : EntOk e_l01Sizes := by
  intro vs v new h
  unfold e_l01Sizes at h
  simp only at h
  split at h
  · rename_i p n k c
    cases h
    refine ent_run (n := 40) (m := rnd [] 40 10) none_ok rfl same_weak rfl rfl ?_ rfl cleanB_nil
    refine (sl01Sizes p n k c 10).trans ?_
    unfold sizesB primeB sizeB
    cases decide (p = 2) <;> cases decide (p = 3) <;> cases decide (p = 5) <;> cases decide (1 ≤ n) <;> cases decide (n ≤ 3) <;> cases decide (1 ≤ k) <;> cases decide (k ≤ 3) <;> cases decide (1 ≤ c) <;> cases decide (c ≤ 3) <;> rfl
  · cases h
theorem isPrime_ok : EntOk e_isPrime := by
  intro vs v new h
  unfold e_isPrime at h
  simp only at h
  split at h
  · rename_i p
    cases h
    refine ent_run (n := 40) (m := rnd [] 40 10) none_ok rfl same_weak rfl rfl ?_ rfl cleanB_nil
    refine (sisPrime p 10).trans ?_
    unfold primeB
    cases decide (p = 2) <;> cases decide (p = 3) <;> cases decide (p = 5) <;> rfl
  · cases h
theorem isSize_ok : EntOk e_isSize := by
  intro vs v new h
  unfold e_isSize at h
  simp only at h
  split at h
  · rename_i n k c
    cases h
    refine ent_run (n := 40) (m := rnd [2] 5 10) none_ok rfl same_weak rfl rfl ?_ rfl cleanB_nil
    refine (sisSize n k c 10).trans ?_
    unfold sizeB
    simp only [lt_not]
    cases decide (1 ≤ n) <;> cases decide (n ≤ 3) <;> cases decide (1 ≤ k) <;> cases decide (k ≤ 3) <;> cases decide (1 ≤ c) <;> cases decide (c ≤ 3) <;> rfl
  · cases h
end Go.Proofs.Ythbmlioknnhleaa.Fn
