/- What is told of schemes, their equality and their copies is so. -/
import Derived.Test.YthbmlioknnhleaaFa
namespace Go.Proofs.Ythbmlioknnhleaa.Fn
open Go Go.Proofs.Ythbmlioknnhleaa.Abs
set_option maxRecDepth 100000

/-! ### is it a scheme? -/
theorem is_ok {f : Nat} (h : ∀ (p r k c : Int) (n : Nat) (q : Nat → Nat → Int), Tells Try.prog f [.agg [I p, I r, I k, I c, .vi .u8 27 n q]] (.bool (isB p r k c n q)) []) : EntOk (f, g_is) := by
  intro vs v new hv
  unfold g_is at hv
  simp only at hv
  split at hv
  · rename_i p r k c x
    simp only [Option.map_eq_some_iff] at hv
    obtain ⟨y, hy, he⟩ := hv
    cases he
    exact ⟨[.agg [I p, I r, I k, I c, .vi .u8 27 y.1 y.2]], _, _, rfl, weak_cons (weak_sch hy) weak_nil, rfl, h p r k c y.1 y.2, .inl ⟨rfl, rfl, rfl, cleanB_nil⟩⟩
  · cases hv
section
variable (p r k c : Int) (n : Nat) (q : Nat → Nat → Int)
theorem l01Is_loop (N : Nat) (hn : n ≤ 30) : ∀ (d i m : Nat), i + d = n → Ll01Is_4 p r k c n q N (m + d + 1) (i : Int) = some (.bool (allN (fun i => prodB p (W (r * k)) (W (k * c)) (W (r * c)) (q i)) i d), [], true)
  | 0, i, m, h => by
    have h1 : ¬ ((i : Int) < (n : Int)) := by omega
    rw [rl01Is_4]
    simp only [h1, decide_false, cond_false, allN]
  | d + 1, i, m, h => by
    have h1 : (i : Int) < (n : Int) := by omega
    have ih := l01Is_loop N hn d (i + 1) m (by omega)
    rw [show m + (d + 1) + 1 = (m + d + 1) + 1 by omega, rl01Is_4]
    simp only [h1, (show (0 : Int) ≤ (i : Int) by omega), and_self, chk, decide_true, cond_true, toN, W_succ (show i < 1099511627776 by omega), ih, allN]
    show (bif !prodB p (W (r * k)) (W (k * c)) (W (r * c)) (q i) then _ else _) = _
    cases prodB p (W (r * k)) (W (k * c)) (W (r * c)) (q i) <;> rfl
theorem is_tree {X : R} (h : n ≤ 30 → X = some (.bool (allN (fun i => prodB p (W (r * k)) (W (k * c)) (W (r * c)) (q i)) 0 n), [], true)) :
    (bif !sizesB p r k c then some ((AV.bool false), [], true) else bif decide (30 < (n : Int)) then some ((AV.bool false), [], true) else X) = some (.bool (isB p r k c n q), [], true) := by
  unfold isB
  by_cases hn : n ≤ 30
  · have : ¬ (30 : Int) < (n : Int) := by omega
    simp only [this, hn, decide_false, decide_true, cond_false, Bool.true_and, h hn]
    cases sizesB p r k c <;> rfl
  · have : (30 : Int) < (n : Int) := by omega
    simp only [this, hn, decide_false, decide_true, cond_true, Bool.false_and, Bool.and_false]
    cases sizesB p r k c <;> rfl
theorem l01Is_c : fnK Try.prog (kc (tabOf [e_l01Sizes, e_l01Product])) 40 (rnd [] 40 (n + 1)) 57 [.agg [I p, I r, I k, I c, .vi .u8 27 n q]] done = some (.bool (isB p r k c n q), [], true) :=
  (sl01Is p r k c n q (n + 1)).trans (is_tree p r k c n q fun hn => by
    have := l01Is_loop p r k c n q (n + 1) hn n 0 0 (by omega)
    rwa [Nat.zero_add] at this)
theorem IsScheme_loop (N : Nat) (hn : n ≤ 30) : ∀ (d i m : Nat), i + d = n → LIsScheme_4 p r k c n q N (m + d + 1) (i : Int) = some (.bool (allN (fun i => prodB p (W (r * k)) (W (k * c)) (W (r * c)) (q i)) i d), [], true)
  | 0, i, m, h => by
    have h1 : ¬ ((i : Int) < (n : Int)) := by omega
    rw [rIsScheme_4]
    simp only [h1, decide_false, cond_false, allN]
  | d + 1, i, m, h => by
    have h1 : (i : Int) < (n : Int) := by omega
    have ih := IsScheme_loop N hn d (i + 1) m (by omega)
    rw [show m + (d + 1) + 1 = (m + d + 1) + 1 by omega, rIsScheme_4]
    simp only [h1, (show (0 : Int) ≤ (i : Int) by omega), and_self, chk, decide_true, cond_true, toN, W_succ (show i < 1099511627776 by omega), ih, allN]
    show (bif !prodB p (W (r * k)) (W (k * c)) (W (r * c)) (q i) then _ else _) = _
    cases prodB p (W (r * k)) (W (k * c)) (W (r * c)) (q i) <;> rfl
theorem IsScheme_c : fnK Try.prog (kc (tabOf [e_isPrime, e_isSize, e_isProduct])) 40 (rnd [] 40 (n + 1)) 60 [.agg [I p, I r, I k, I c, .vi .u8 27 n q]] done = some (.bool (isB p r k c n q), [], true) := by
  have h := is_tree p r k c n q (X := LIsScheme_4 p r k c n q (n + 1) (n + 1) 0) fun hn => by
    have := IsScheme_loop p r k c n q (n + 1) hn n 0 0 (by omega)
    rwa [Nat.zero_add] at this
  refine (sIsScheme p r k c n q (n + 1)).trans (Eq.trans ?_ h)
  unfold sizesB
  cases primeB p <;> cases sizeB r <;> cases sizeB k <;> cases sizeB c <;> rfl
end
theorem l01Is_ok : EntOk e_l01Is := is_ok fun p r k c n q => fnK_sem mixed plain (tabOf_ok (l := [e_l01Sizes, e_l01Product]) (by simp [l01Sizes_ok, l01Product_ok])) (KMTOk.none _) rfl rfl (l01Is_c p r k c n q)
theorem IsScheme_ok : EntOk e_IsScheme := is_ok fun p r k c n q => fnK_sem mixed plain (tabOf_ok (l := [e_isPrime, e_isSize, e_isProduct]) (by simp [isPrime_ok, isSize_ok, isProduct_ok])) (KMTOk.none _) rfl rfl (IsScheme_c p r k c n q)

/-! ### equality -/
theorem eqForm_loop (x y : Nat → Int) (N : Nat) : ∀ (d i m : Nat), i + d = 9 → LeqForm_2 x y N (m + d + 1) (i : Int) = some (.bool (allN (fun i => decide (x i = y i)) i d), [], true)
  | 0, i, m, h => by
    have h1 : ¬ ((i : Int) < 9) := by omega
    rw [reqForm_2]
    simp only [h1, decide_false, cond_false, allN]
  | d + 1, i, m, h => by
    have h1 : (i : Int) < 9 := by omega
    have h0 : (0 : Int) ≤ (i : Int) := by omega
    have hi : i < 9 := by omega
    have ih := eqForm_loop x y N d (i + 1) m (by omega)
    rw [show m + (d + 1) + 1 = (m + d + 1) + 1 by omega, reqForm_2]
    simp only [toN, Nat.mul_one, Nat.zero_add, h1, h0, hi, and_self, decide_true, cond_true, chk, pA_get x hi, pA_get y hi, W_succ (show i < 1099511627776 by omega), ih, allN]
    cases decide (x i = y i) <;> rfl
theorem eqForm_c (x y : Nat → Int) : fnK Try.prog (kc (tabOf [])) 40 (rnd [] 40 10) 143 [.agg (cellsI .u8 9 x), .agg (cellsI .u8 9 y)] done = some (.bool (eq9 x y), [], true) := by
  rw [seqForm]
  exact eqForm_loop x y 10 9 0 0 rfl
theorem eqForm_ok : EntOk e_eqForm := by
  intro vs v new h
  unfold e_eqForm at h
  simp only at h
  split at h
  · simp only [Option.bind_eq_some_iff, Option.map_eq_some_iff] at h
    obtain ⟨l, hl, l', hl', he⟩ := h
    cases he
    rw [u8s_eq hl, u8s_eq hl']
    exact ent_run none_ok rfl same_weak rfl rfl (eqForm_c _ _) rfl cleanB_nil
  · cases h

section
variable (n : Nat) (x : Nat → Nat → Int) (y : Nat → Nat → Int)
theorem eqProductS_loop (N : Nat) (hn : n ≤ 1048576) : ∀ (d i m : Nat), i + d = n → LeqProductS_4 n x n y N (m + d + 1) (i : Int) = some (.bool (allN (fun i => eq27 (x i) (y i)) i d), [], true)
  | 0, i, m, h => by
    have h1 : ¬ ((i : Int) < (n : Int)) := by omega
    rw [reqProductS_4]
    simp only [h1, decide_false, cond_false, allN]
  | d + 1, i, m, h => by
    have h1 : (i : Int) < (n : Int) := by omega
    have ih := eqProductS_loop N hn d (i + 1) m (by omega)
    rw [show m + (d + 1) + 1 = (m + d + 1) + 1 by omega, reqProductS_4]
    simp only [h1, (show (0 : Int) ≤ (i : Int) by omega), and_self, chk, decide_true, cond_true, toN, W_succ (show i < 1099511627776 by omega), ih, allN]
    show (bif !eq9 (x i) (y i) then _ else bif !eq9 (at9 9 (x i)) (at9 9 (y i)) then _ else bif !eq9 (at9 18 (x i)) (at9 18 (y i)) then _ else _) = _
    unfold eq27
    cases eq9 (x i) (y i) <;> cases eq9 (at9 9 (x i)) (at9 9 (y i)) <;> cases eq9 (at9 18 (x i)) (at9 18 (y i)) <;> rfl
end
theorem eqPs_tree {n n' : Nat} {x y : Nat → Nat → Int} {X : R} (h : n = n' → X = some (.bool (allN (fun i => eq27 (x i) (y i)) 0 n), [], true)) :
    (bif (!(decide (((n : Nat) : Int) = ((n' : Nat) : Int)))) then some ((AV.bool false), [], true) else X) = some (.bool (eqPs n x n' y), [], true) := by
  unfold eqPs
  by_cases e : n = n'
  · simp only [h e, e, decide_true, Bool.not_true, cond_false, Bool.true_and]
  · have : ¬ ((n : Int) = (n' : Int)) := by omega
    simp only [e, this, decide_false, Bool.not_false, cond_true, Bool.false_and]
theorem eqProductS_c (n : Nat) (x : Nat → Nat → Int) (n' : Nat) (y : Nat → Nat → Int) (hn : n ≤ 1048576) : fnK Try.prog (kc (tabOf [e_eqForm])) 40 (rnd [] 40 (n + 1)) 62 [.vi .u8 27 n x, .vi .u8 27 n' y] done = some (.bool (eqPs n x n' y), [], true) :=
  (seqProductS n x n' y (n + 1)).trans (eqPs_tree fun e => by
    subst e
    have := eqProductS_loop n x y (n + 1) hn n 0 0 (by omega)
    rwa [Nat.zero_add] at this)
theorem eqProductS_ok : EntOk e_eqProductS := by
  intro vs v new h
  unfold e_eqProductS at h
  simp only at h
  split at h
  · simp only [Option.bind_eq_some_iff, Option.some.injEq, Prod.mk.injEq, decide_eq_true_eq] at h
    obtain ⟨a, ha, b, hb, h1, rfl, rfl⟩ := h
    exact ent_run (l := [e_eqForm]) (vs' := [.vi .u8 27 a.1 a.2, .vi .u8 27 b.1 b.2]) (by simp [eqForm_ok]) rfl (weak_cons (prods_weak ha) (weak_cons (prods_weak hb) weak_nil)) rfl rfl (eqProductS_c a.1 a.2 b.1 b.2 h1) rfl cleanB_nil
  · cases h

/-! ### copies -/
section
variable (n : Nat) (x : Nat → Nat → Int)
theorem toProductS_loop (N : Nat) (hn : n ≤ 1048576) : ∀ (d i m : Nat) (q : Nat → Nat → Int), i + d = n → (∀ a c, a < i → c < 27 → q a c = x a c) → ∃ q' : Nat → Nat → Int, LtoProductS_3 n x N (m + d + 1) (i : Int) q = some (.sl 0 0 n n, [⟨tProduct, 27, .ints .u8 27 n q'⟩], true) ∧ ∀ a c, a < n → c < 27 → q' a c = x a c
  | 0, i, m, q, h, hq => by
    have h1 : ¬ ((i : Int) < (n : Int)) := by omega
    rw [rtoProductS_3]
    simp only [h1, decide_false, cond_false]
    exact ⟨q, rfl, fun a c ha hc => hq a c (by omega) hc⟩
  | d + 1, i, m, q, h, hq => by
    have h1 : (i : Int) < (n : Int) := by omega
    have hi : i < n := by omega
    rw [show m + (d + 1) + 1 = (m + d + 1) + 1 by omega, rtoProductS_3]
    simp only [h1, (show (0 : Int) ≤ (i : Int) by omega), and_self, beq_self_eq_true, decide_true, cond_true, toN, Nat.zero_add, Nat.le_refl, hi, chk, W_succ (show i < 1099511627776 by omega)]
    refine toProductS_loop N hn d (i + 1) m _ (by omega) fun a c ha hc => ?_
    by_cases e : a = i
    · subst e
      simp only [BEq.rfl, cond_true]
      exact nth0 (x a) hc
    · have : (a == i) = false := by simpa using e
      simp only [this, cond_false]
      exact hq a c (by omega) hc
end
theorem toProductS_ok : EntOk e_toProductS := by
  intro vs v new h
  unfold e_toProductS at h
  simp only at h
  split at h
  · simp only [Option.map_eq_some_iff, Prod.mk.injEq, decide_eq_true_eq] at h
    obtain ⟨a, ha, h1, rfl, rfl⟩ := h
    obtain ⟨q', hr, hq⟩ := toProductS_loop a.1 a.2 (a.1 + 1) h1 a.1 0 0 (fun _ => nthI [0, 0, 0, 0, 0, 0, 0, 0, 0, 0, 0, 0, 0, 0, 0, 0, 0, 0, 0, 0, 0, 0, 0, 0, 0, 0, 0]) (by omega) (fun a c h => by omega)
    rw [abs_ints (q' := q') fun i j hi hj => (hq i j hi hj).symm]
    refine ent_run (l := []) (vs' := [.vi .u8 27 a.1 a.2]) (n := 40) (m := rnd [] 40 (a.1 + 1)) none_ok rfl (weak_cons (prods_weak ha) weak_nil) rfl rfl ?_ rfl (cleanB_ints _ _ _ _ _ _)
    refine (stoProductS a.1 a.2 (a.1 + 1)).trans ?_
    rw [chkd ⟨by omega, rfl, by omega⟩]
    rw [Nat.zero_add] at hr
    exact hr
  · cases h
end Go.Proofs.Ythbmlioknnhleaa.Fn
