/- What is told of AreEqualSchemes is so, and its law. -/
import Derived.Test.YthbmlioknnhleaaFsc
import Derived.Test.YthbmlioknnhleaaDae
import Derived.Test.YthbmlioknnhleaaEae
import Derived.Test.YthbmlioknnhleaaElae
namespace Go.Proofs.Ythbmlioknnhleaa.Fn
open Go Go.Proofs.Ythbmlioknnhleaa.Abs
set_option maxRecDepth 100000
set_option linter.unusedVariables false
set_option linter.unusedSimpArgs false
theorem intsFrom_congr {f g : Nat → Int} : ∀ (n i : Nat), (∀ j, i ≤ j → j < i + n → f j = g j) → intsFrom f i n = intsFrom g i n
  | 0, i, _ => rfl
  | n + 1, i, h => by
    simp only [intsFrom]
    rw [h i (Nat.le_refl _) (by omega), intsFrom_congr n (i + 1) fun j h1 h2 => h j (by omega) (by omega)]
theorem eqP_congr {f g f' g' : Nat → Int} (h1 : ∀ c, c < 27 → f c = f' c) (h2 : ∀ c, c < 27 → g c = g' c) : eqP f g = eqP f' g' := by
  unfold eqP
  rw [intsFrom_congr (f := f) (g := f') 27 0 fun j _ h => h1 j (by omega), intsFrom_congr (f := g) (g := g') 27 0 fun j _ h => h2 j (by omega)]
theorem eqL_congr {n m : Nat} {q q' y y' : Nat → Nat → Int} (h1 : ∀ i c, i < n → c < 27 → q i c = q' i c) (h2 : ∀ i c, i < m → c < 27 → y i c = y' i c) : eqL n q m y = eqL n q' m y' := by
  unfold eqL
  by_cases h : n = m
  · subst h
    rw [allN_congr (f := fun i => eqP (q i) (y i)) (g := fun i => eqP (q' i) (y' i)) n 0 fun j _ hj => eqP_congr (fun c hc => h1 j c (by omega) hc) (fun c hc => h2 j c (by omega) hc)]
  · simp [h]
theorem equalPs_run (n : Nat) (q q' : Nat → Nat → Int) (N : Nat) (hn : n ≤ 30) : ∀ (d i m : Nat), i + d = n → LequalPs_4 n q n q' N (m + d + 1) (i : Int) = some (.bool (allN (fun i => eqP (q i) (q' i)) i d), [], true)
  | 0, i, m, h => by
    obtain rfl : i = n := by omega
    rw [Nat.add_zero, requalPs_4, bifF (decide_eq_false (Int.lt_irrefl _))]
    rfl
  | d + 1, i, m, h => by
    rw [show m + (d + 1) + 1 = (m + d + 1) + 1 by omega, requalPs_4, toN, W_succ (show i < 1099511627776 by omega), bifT (decide_eq_true (by omega)), chkd ⟨by omega, by omega⟩, chkd ⟨by omega, by omega⟩]
    simp only [allN]
    rw [show decide (intsFrom (q i) 0 27 = intsFrom (q' i) 0 27) = eqP (q i) (q' i) from rfl]
    cases he : eqP (q i) (q' i) with
    | false => exact bifT (show (!false) = true from rfl) _ _
    | true =>
      rw [bifF (show (!true) = false from rfl), equalPs_run n q q' N hn d (i + 1) m (by omega)]
      rfl
theorem equalPs_ok : EntOk e_equalPs := by
  intro vs v new hv
  unfold e_equalPs at hv
  simp only at hv
  split at hv
  · rename_i n q m q'
    simp only [Option.some.injEq, Prod.mk.injEq, decide_eq_true_eq] at hv
    obtain ⟨hn, rfl, rfl⟩ := hv
    refine ent_run (m := rnd [] 40 (n + 1)) none_ok rfl same_weak rfl rfl ((sequalPs n q m q' (n + 1)).trans ?_) rfl cleanB_nil
    by_cases h : n = m
    · subst h
      have := equalPs_run n q q' (n + 1) hn n 0 0 (by omega)
      rw [show 0 + n + 1 = n + 1 by omega] at this
      rw [bifF (by simp)]
      refine Eq.trans this ?_
      unfold eqL
      rw [decide_eq_true rfl]
      rfl
    · rw [bifT (by simp; omega)]
      unfold eqL
      rw [decide_eq_false h]
      rfl
  · cases hv
theorem code_eqs {p r k c : Int} {n : Nat} {q : Nat → Nat → Int} {p' r' k' c' : Int} {n' : Nat} {q' : Nat → Nat → Int} {F : Bool → Int → R} {X : R}
    (hX : isB p r k c n q = true → isB p' r' k' c' n' q' = true → X = F (eqL n (sortQ n fun i => normF p (q i)) n' (sortQ n' fun i => normF p' (q' i))) 0) :
    (bif (!(isB p r k c n q)) then F false 1 else bif (!(isB p' r' k' c' n' q')) then F false 1 else bif (!(decide (p = p'))) then F false 2 else bif (!(decide (r = r'))) then F false 2 else
      bif (!(decide (k = k'))) then F false 2 else bif (!(decide (c = c'))) then F false 2 else X) = F (aeV ⟨p, r, k, c, n, q⟩ ⟨p', r', k', c', n', q'⟩) (codeAe ⟨p, r, k, c, n, q⟩ ⟨p', r', k', c', n', q'⟩) := by
  unfold aeV codeAe sameB
  simp only
  cases hB : isB p r k c n q with
  | false => rfl
  | true =>
    cases hB' : isB p' r' k' c' n' q' with
    | false => rfl
    | true =>
      rw [hX hB hB']
      cases decide (p = p') <;> cases decide (r = r') <;> cases decide (k = k') <;> cases decide (c = c') <;> rfl
theorem ae_ok' {f : Nat} {l : List Ent} (hl : ∀ e ∈ l, EntOk e) (hf : tabOf l [] f = none) {g : Nat → Rounds} (h : ∀ (p r k c : Int) (n : Nat) (q : Nat → Nat → Int) (p' r' k' c' : Int) (n' : Nat) (q' : Nat → Nat → Int), rngB n q = true → rngB n' q' = true → fnK Try.prog (kc (tabOf l)) 40 (g n) f [.agg [I p, I r, I k, I c, .vi .u8 27 n q], .agg [I p', I r', I k', I c', .vi .u8 27 n' q']] done =
      some (.tup [.bool (aeV ⟨p, r, k, c, n, q⟩ ⟨p', r', k', c', n', q'⟩), I (codeAe ⟨p, r, k, c, n, q⟩ ⟨p', r', k', c', n', q'⟩)], [], true)) : EntOk (f, g_ae) := by
  intro vs v new hv
  unfold g_ae at hv
  simp only at hv
  split at hv
  · simp only [Option.bind_eq_some_iff, Option.map_eq_some_iff, Prod.mk.injEq, Bool.and_eq_true] at hv
    obtain ⟨a, ha, b, hb, ⟨h1, h2⟩, rfl, rfl⟩ := hv
    obtain ⟨p, r, k, c, z, y, rfl, hy, rfl⟩ := sch_eq ha
    obtain ⟨p', r', k', c', z', y', rfl, hy', rfl⟩ := sch_eq hb
    exact ent_run (vs' := [.agg [I p, I r, I k, I c, .vi .u8 27 y.1 y.2], .agg [I p', I r', I k', I c', .vi .u8 27 y'.1 y'.2]]) hl rfl (weak_cons (weak_sch hy) (weak_cons (weak_sch hy') weak_nil)) rfl hf (h p r k c y.1 y.2 p' r' k' c' y'.1 y'.2 h1 h2) rfl cleanB_nil
  · cases hv
theorem can_cell (p : Int) {n i j : Nat} (q : Nat → Nat → Int) (hi : i < n) (hj : j < 27) : canonI n 27 q i j = q i j := by simp [canonI, hi, hj]
theorem implAe_ok : EntOk e_implAe := ae_ok' (l := [e_IsScheme, e_normals, e_sorted, e_equalPs]) (g := fun n => rnd [2, 5] 5 0) (by simp [IsScheme_ok, normals_ok, sorted_ok, equalPs_ok]) rfl fun p r k c n q p' r' k' c' n' q' hr hr' => (simplAe p r k c n q p' r' k' c' n' q' 0).trans (code_eqs (F := fun b i => some (.tup [.bool b, I i], [], true)) fun hB hB' => by
  obtain ⟨_, _, _, _, h5, _⟩ := isB_sizes hB
  obtain ⟨_, _, _, _, h5', _⟩ := isB_sizes hB'
  rw [chkb (okNs_of hB hr), chkbeq, chkd (by omega), chkb (by rw [nn_canon]; exact decide_eq_true h5), chkb (okNs_of hB' hr'), chkbeq, chkd (by omega), chkb (by rw [nn_canon]; exact decide_eq_true h5'), chkbeq, chkd (by omega), chkbeq, chkd (by omega), chkd h5]
  rw [eqL_congr (fun i j hi hj => (can_cell p _ hi hj).trans (sortQ_congr (q' := fun i => normF p (q i)) (fun i j hi hj => can_cell p _ hi hj) hi hj)) (fun i j hi hj => (can_cell p _ hi hj).trans (sortQ_congr (q' := fun i => normF p' (q' i)) (fun i j hi hj => can_cell p _ hi hj) hi hj))])
theorem specAe_run (p r k c : Int) (n : Nat) (q : Nat → Nat → Int) (p' r' k' c' : Int) (q' : Nat → Nat → Int) (N : Nat) (hn : n ≤ 30) : ∀ (d i m : Nat) (b : Bool), i + d = n →
    LspecAe_7 p r k c n q p' r' k' c' n q' N (m + d + 1) b (i : Int) = some (.tup [.bool (b && allN (fun i => eqP (sortQ n (canonI n 27 fun i => normF p (q i)) i) (sortQ n (canonI n 27 fun i => normF p' (q' i)) i)) i d), I 0], [], true)
  | 0, i, m, b, h => by
    obtain rfl : i = n := by omega
    rw [Nat.add_zero, rspecAe_7, chkbeq, bifF (decide_eq_false (Int.lt_irrefl _))]
    cases b <;> rfl
  | d + 1, i, m, b, h => by
    rw [show m + (d + 1) + 1 = (m + d + 1) + 1 by omega, rspecAe_7, chkbeq, toN, Nat.zero_add, W_succ (show i < 1099511627776 by omega), bifT (decide_eq_true (by omega))]
    cases b with
    | false => exact cF _ _
    | true =>
      rw [cT, chkbeq, chkd ⟨by omega, by omega⟩, chkd (by omega), chkbeq, chkd (by omega), chkbeq, chkd ⟨by omega, by omega⟩, chkd (by omega), chkbeq, chkd (by omega), specAe_run p r k c n q p' r' k' c' q' N hn d (i + 1) m _ (by omega), Nat.zero_add, Bool.true_and]
      rfl
theorem specAe_ok : EntOk e_specAe := ae_ok' (l := [e_l01Is, e_l03AllNormal, e_l01Sorted]) (g := fun n => rnd [] 40 (n + 1)) (by simp [l01Is_ok, l03AllNormal_ok, l01Sorted_ok]) rfl fun p r k c n q p' r' k' c' n' q' hr hr' => (sspecAe p r k c n q p' r' k' c' n' q' (n + 1)).trans (code_eqs (F := fun b i => some (.tup [.bool b, I i], [], true)) fun hB hB' => by
  obtain ⟨_, _, _, _, h5, _⟩ := isB_sizes hB
  obtain ⟨_, _, _, _, h5', _⟩ := isB_sizes hB'
  rw [chkb (okNs_of hB hr), chkbeq, chkd (by omega), chkd h5, chkb (okNs_of hB' hr'), chkbeq, chkd (by omega), chkd h5', chkbeq, chkbeq]
  have e := eqL_congr (n := n) (m := n') (q := sortQ n (canonI n 27 fun i => normF p (q i))) (q' := sortQ n fun i => normF p (q i)) (y := sortQ n' (canonI n' 27 fun i => normF p' (q' i))) (y' := sortQ n' fun i => normF p' (q' i)) (fun i j hi hj => sortQ_congr (fun i j hi hj => can_cell p _ hi hj) hi hj) (fun i j hi hj => sortQ_congr (fun i j hi hj => can_cell p _ hi hj) hi hj)
  rw [← e]
  unfold eqL
  by_cases h : n = n'
  · subst h
    have := specAe_run p r k c n q p' r' k' c' q' (n + 1) h5 n 0 0 true (by omega)
    rw [show 0 + n + 1 = n + 1 by omega] at this
    rw [decide_eq_true rfl, decide_eq_true rfl]
    exact this
  · rw [decide_eq_false h, decide_eq_false (show ¬ (n : Int) = (n' : Int) by omega), rspecAe_7, chkbeq]
    cases decide ((0 : Int) < (n : Int)) <;> first | exact cF _ _ | exact cT _ _)
theorem exactAreEqualSchemes_law (p r k c : Int) (n : Nat) (q : Nat → Nat → Int) (hn : n ≤ maxLen) (hq : ∀ i j, i < n → j < 27 → inB (q i j)) (p' r' k' c' : Int) (n' : Nat) (q' : Nat → Nat → Int) (hn' : n' ≤ maxLen) (hq' : ∀ i j, i < n' → j < 27 → inB (q' i j)) : LawOf 8 [.agg [I p, I r, I k, I c, .vi .u8 27 n q], .agg [I p', I r', I k', I c', .vi .u8 27 n' q']] := by
  by_cases hc : (1048576 : Int) - n < 0
  · exact ⟨[e_toScheme, e_eqScheme, e_specAe, e_implAe], [], [], 40, rnd [] 40 0, _, (by simp [toScheme_ok, eqScheme_ok, specAe_ok, implAe_ok]), none_cok, none_mok, rfl, rfl, (slawAe p r k c n q p' r' k' c' n' q' 0).trans (by
      rw [left_of hn]
      simp [hc]; rfl)⟩
  · have h1 : n ≤ 1048576 := by omega
    have h2 : W ((1048576 : Int) - n - n') = (1048576 : Int) - n - n' := W_of (by unfold maxLen at hn'; omega) (by omega)
    by_cases hc' : (1048576 : Int) - n - n' < 0
    · exact ⟨[e_toScheme, e_eqScheme, e_specAe, e_implAe], [], [], 40, rnd [] 40 0, _, (by simp [toScheme_ok, eqScheme_ok, specAe_ok, implAe_ok]), none_cok, none_mok, rfl, rfl, (slawAe p r k c n q p' r' k' c' n' q' 0).trans (by
        rw [left_of hn, h2]
        simp [hc, hc']; rfl)⟩
    · have h3 : n' ≤ 1048576 := by omega
      have r1 := rng_canon hq
      have r2 := rng_canon hq'
      exact ⟨[e_toScheme, e_eqScheme, e_specAe, e_implAe], [], [], 40, rnd [] 40 0, _, (by simp [toScheme_ok, eqScheme_ok, specAe_ok, implAe_ok]), none_cok, none_mok, rfl, rfl, (slawAe p r k c n q p' r' k' c' n' q' 0).trans (by
        rw [left_of hn, h2]
        simp [hc, hc', h1, h3, chk, r1, r2, eqS_rfl]; rfl)⟩
end Go.Proofs.Ythbmlioknnhleaa.Fn
