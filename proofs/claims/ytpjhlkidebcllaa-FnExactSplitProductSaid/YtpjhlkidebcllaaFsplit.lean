/- What is told of splits is so. -/
import Derived.Test.YtpjhlkidebcllaaFplus
import Derived.Test.YtpjhlkidebcllaaEsplit
namespace Go.Proofs.Ytpjhlkidebcllaa.Fn
open Go Go.Proofs.Ytpjhlkidebcllaa.Abs
set_option maxRecDepth 100000
set_option linter.unusedSimpArgs false
set_option linter.unusedVariables false
theorem codeSplit_eq {p r k c : Int} {n : Nat} {q : Nat → Nat → Int} (hB : isB p r k c n q = true) (i f : Int) (y : Nat → Int) : codeSplitProduct ⟨p, r, k, c, n, q⟩ i f y = if (0 ≤ i ∧ i < n) ∧ (0 ≤ f ∧ f ≤ 2) then (if formB p (placeF ⟨p, r, k, c, n, q⟩ f) y = true then (if zero9 y = true then 5 else if eqF y (facF f (q i.toNat)) = true then 5 else if (n : Int) = 30 then 3 else 0) else 2) else 2 := by
  unfold codeSplitProduct idxB
  simp only [hB, cond_true]
  have e : ((n : Int) = 30) = (n = 30) := by simp; omega
  by_cases c1 : 0 ≤ i <;> by_cases c2 : i < n <;> by_cases c7 : 0 ≤ f <;> by_cases c8 : f ≤ 2 <;> simp only [c1, c2, c7, c8, decide_true, decide_false, Bool.and_self, Bool.and_true, Bool.and_false, Bool.false_and, Bool.true_and, cond_true, cond_false, and_self, and_true, and_false, false_and, true_and, if_true, if_false]
  cases formB p (placeF ⟨p, r, k, c, n, q⟩ f) y <;> cases zero9 y <;> cases eqF y (facF f (q i.toNat)) <;> by_cases h : n = 30 <;> simp [h, e]
theorem codeSplit0 {p r k c : Int} {n : Nat} {q : Nat → Nat → Int} {i f : Int} {y : Nat → Int} (h : codeSplitProduct ⟨p, r, k, c, n, q⟩ i f y = 0) : isB p r k c n q = true ∧ (0 ≤ i ∧ i < n) ∧ (0 ≤ f ∧ f ≤ 2) ∧ formB p (placeF ⟨p, r, k, c, n, q⟩ f) y = true ∧ zero9 y = false ∧ eqF y (facF f (q i.toNat)) = false ∧ (n : Int) ≠ 30 := by
  cases hB : isB p r k c n q with
  | false => unfold codeSplitProduct at h; simp [hB] at h
  | true =>
    rw [codeSplit_eq hB] at h
    refine ⟨rfl, ?_⟩
    split at h
    · rename_i h1
      split at h
      · rename_i h2
        split at h
        · omega
        · rename_i h3
          split at h
          · omega
          · rename_i h4
            split at h
            · omega
            · rename_i h5; exact ⟨h1.1, h1.2, h2, by simpa using h3, by simpa using h4, h5⟩
      · omega
    · omega
theorem eqS0 (x y : Nat → Int) : eqF y (facF 0 x) = decide (intsFrom y 0 9 = intsFrom x 0 9) := rfl
theorem eqS1 (x y : Nat → Int) : eqF y (facF 1 x) = decide (intsFrom y 0 9 = intsFrom x 9 9) := rfl
theorem eqS2 (x y : Nat → Int) : eqF y (facF 2 x) = decide (intsFrom y 0 9 = intsFrom x 18 9) := rfl
theorem pf0 (p r k c : Int) (n : Nat) (q : Nat → Nat → Int) : placeF ⟨p, r, k, c, n, q⟩ 0 = W (r * k) := rfl
theorem pf1 (p r k c : Int) (n : Nat) (q : Nat → Nat → Int) : placeF ⟨p, r, k, c, n, q⟩ 1 = W (k * c) := rfl
theorem pf2 (p r k c : Int) (n : Nat) (q : Nat → Nat → Int) : placeF ⟨p, r, k, c, n, q⟩ 2 = W (r * c) := rfl
theorem formB_pA (p m : Int) (y : Nat → Int) : formB p m (pA y) = formB p m y := by
  unfold formB
  exact allN_congr 9 0 fun j _ hj => by unfold okAt; rw [pA_get y (by omega)]
theorem mod9_pA (p : Int) (y : Nat → Int) : mod9 p (pA y) = mod9 p y := by
  unfold mod9
  exact allN_congr 9 0 fun j _ hj => by rw [pA_get y (by omega)]
theorem mod9_form {p m : Int} {y : Nat → Int} (hf : formB p m y = true) (hr : rng9 y = true) : mod9 p y = true := by
  refine mod9_iff.2 fun j hj => ?_
  have := (allN_iff _ 9 0).1 hf j (by omega) (by omega)
  have hb := (allN_iff _ 9 0).1 hr j (by omega) (by omega)
  simp only [Bool.and_eq_true, decide_eq_true_eq] at hb
  unfold okAt at this
  have hw : W (y j) = y j := W_of (by omega) (by omega)
  rw [hw] at this
  simp only [Bool.not_eq_true', Bool.or_eq_false_iff, decide_eq_false_iff_not] at this
  omega
theorem ints9 (x y : Nat → Int) : intsFrom x 0 9 = intsFrom y 0 9 ↔ ∀ j, j < 9 → x j = y j := by
  constructor
  · intro h j hj
    have e : nthI (intsFrom x 0 9) j = nthI (intsFrom y 0 9) j := by rw [h]
    rwa [nth0 x hj, nth0 y hj] at e
  · intro h
    simp only [intsFrom]
    rw [h 0 (by omega), h (0 + 1) (by omega), h (0 + 1 + 1) (by omega), h (0 + 1 + 1 + 1) (by omega), h (0 + 1 + 1 + 1 + 1) (by omega), h (0 + 1 + 1 + 1 + 1 + 1) (by omega), h (0 + 1 + 1 + 1 + 1 + 1 + 1) (by omega), h (0 + 1 + 1 + 1 + 1 + 1 + 1 + 1) (by omega), h (0 + 1 + 1 + 1 + 1 + 1 + 1 + 1 + 1) (by omega)]
theorem zero9_of {x : Nat → Int} (h : zero9 x = true) : ∀ j, j < 9 → x j = 0 := fun j hj => by
  unfold zero9 at h
  simp only [decide_eq_true_eq] at h
  have e : intsFrom x 0 9 = intsFrom (fun _ => 0) 0 9 := h
  exact (ints9 x (fun _ => 0)).1 e j hj
theorem diff_nz {p : Int} {x y : Nat → Int} (hx : mod9 p x = true) (hy : mod9 p y = true) (h : eqF y x = false) : zero9 (sumQ p (-1) x y) = false := by
  cases hz : zero9 (sumQ p (-1) x y) with
  | false => rfl
  | true =>
    exfalso
    have : eqF y x = true := by
      unfold eqF
      simp only [decide_eq_true_eq]
      refine (ints9 y x).2 fun j hj => ?_
      have e := zero9_of hz j hj
      unfold sumQ at e
      have bx := mod9_iff.1 hx j hj
      have b := mod9_iff.1 hy j hj
      have hd := Int.dvd_of_emod_eq_zero e
      obtain ⟨m, hm⟩ := hd
      have hm0 : m = 0 := by
        rcases Int.lt_trichotomy m 0 with h | h | h
        · have : p * m ≤ p * (-1) := Int.mul_le_mul_of_nonneg_left (by omega) (by omega)
          omega
        · exact h
        · have : p * 1 ≤ p * m := Int.mul_le_mul_of_nonneg_left (by omega) (by omega)
          omega
      subst hm0
      omega
    rw [this] at h
    cases h
theorem nz_prod {A B C : Nat → Int} (h1 : zero9 A = false) (h2 : zero9 B = false) (h3 : zero9 C = false) : nzF (prodQ A B C) = true := by
  unfold nzF
  rw [zero9_congr (F := pA (prodQ A B C)) (F' := A) fun j hj => (pA_get _ hj).trans (prodQ_A _ _ _ hj), zero9_congr (F := pB (prodQ A B C)) (F' := B) fun j hj => (pB_get _ hj).trans (prodQ_B _ _ _ hj), zero9_congr (F := pC (prodQ A B C)) (F' := C) fun j hj => (pC_get _ hj).trans (prodQ_C _ _ _ hj), h1, h2, h3]
  rfl
theorem nz_parts {x : Nat → Int} (h : nzF x = true) : zero9 (pA x) = false ∧ zero9 (pB x) = false ∧ zero9 (pC x) = false := by
  unfold nzF at h
  simpa using h
theorem nz_set {f : Int} {x g : Nat → Int} (h : nzF x = true) (hg : zero9 g = false) : nzF (setF f x g) = true := by
  obtain ⟨h1, h2, h3⟩ := nz_parts h
  unfold setF
  by_cases f0 : f = 0
  · simp only [f0, decide_true, cond_true]; exact nz_prod hg h2 h3
  · by_cases f1 : f = 1
    · subst f1
      exact nz_prod h1 hg h3
    · simp only [f0, f1, decide_false, cond_false]; exact nz_prod h1 h2 hg
theorem split_nz {p r k c : Int} {n : Nat} {q : Nat → Nat → Int} {i : Nat} {f : Int} {y : Nat → Int} (hB : isB p r k c n q = true) (hr : rngB n q = true) (hi : i < n) (hm : mod9 p y = true) (hz : zero9 y = false) (he : eqF y (facF f (q i)) = false) {a : Nat} (ha : a < n + 1) : nzF (splitQ p n i f y q a) = true := by
  obtain ⟨hp, a1, b1, c1, z1⟩ := mod9_of hB hr hi
  unfold splitQ
  by_cases h1 : a = n
  · simp only [h1, decide_true, cond_true]
    refine nz_set z1 (diff_nz ?_ hm he)
    unfold facF
    by_cases f0 : f = 0
    · simp only [f0, decide_true, cond_true]; exact a1
    · by_cases f1 : f = 1
      · subst f1; exact b1
      · simp only [f0, f1, decide_false, cond_false]; exact c1
  · by_cases h2 : a = i
    · simp only [h1, h2, decide_true, decide_false, cond_true, cond_false]
      have : ¬ i = n := by omega
      simp only [this, decide_false, cond_false]
      exact nz_set z1 hz
    · simp only [h1, h2, decide_false, cond_false]
      exact (mod9_of hB hr (by omega)).2.2.2.2
theorem Gives.all {p r k c : Int} {N : Nat} {Z : Nat → Nat → Int} {X : R} (h : Gives (.tup [.agg [I p, I r, I k, I c, .sl 0 0 (nzL N Z).length (nzL N Z).length], I 0]) (nzL N Z).length (keptQ N Z) X) (hz : ∀ a, a < N → nzF (Z a) = true) : Gives (.tup [.agg [I p, I r, I k, I c, .sl 0 0 N N], I 0]) N Z X := by
  obtain ⟨h1, h2⟩ := keepL_all (b := fun i => nzF (Z i)) N 0 fun j _ hj => hz j (by omega)
  have h1' : (nzL N Z).length = N := h1
  rw [h1'] at h
  refine h.congr fun a c ha hc => ?_
  unfold keptQ
  have : (nzL N Z).getD a 0 = a := (h2 a ha).trans (Nat.zero_add a)
  rw [this]
section
variable (p r k c : Int) (n : Nat) (q : Nat → Nat → Int) (i : Int)
theorem specSplit0_err (y : Nat → Int) (h0 : codeSplitProduct ⟨p, r, k, c, n, q⟩ i 0 y ≠ 0) : fnK Try.prog (kc (tabOf [e_l01Is, e_l01Form, e_l01Add, e_l03Told])) 40 (rnd [] 40 0) 41 [.agg [I p, I r, I k, I c, .vi .u8 27 n q], I i, I 0, .agg (cellsI .u8 9 y)] done = some (.tup [.agg [I 0, I 0, I 0, I 0, .nilsl], I (codeSplitProduct ⟨p, r, k, c, n, q⟩ i 0 y)], [], true) := by
  refine (sspecSplit0 p r k c n q i y 0).trans ?_
  cases hB : isB p r k c n q with
  | false => exact (bifT rfl _ _).trans (errL (by unfold codeSplitProduct; simp only [hB]; rfl))
  | true =>
    have hn := (isB_sizes hB).2.2.2.2.1
    rw [codeSplit_eq hB] at h0 ⊢
    simp only [eqS0, pf0, decide_eq_true_eq] at h0 ⊢
    rw [formB_pA]
    rw [bifF (show (!true) = false from rfl), W_of (n := (n : Int) - 1) (by omega) (by omega)]
    by_cases c1 : 0 ≤ i
    rotate_left
    · exact (bifF (decide_eq_false c1) _ _).trans (errL (by (repeat' split) <;> first | rfl | omega | (exfalso; simp_all; done) | (exfalso; simp_all; omega)))
    rw [bifT (decide_eq_true c1)]
    by_cases c2 : i ≤ ((n : Int) - 1)
    rotate_left
    · exact (bifT (show (!decide (i ≤ ((n : Int) - 1))) = true by simp only [c2, decide_false, Bool.not_false]) _ _).trans (errL (by (repeat' split) <;> first | rfl | omega | (exfalso; simp_all; done) | (exfalso; simp_all; omega)))
    rw [bifF (show (!decide (i ≤ ((n : Int) - 1))) = false by simp only [c2, decide_true, Bool.not_true])]
    by_cases c3 : (formB p (W (r * k)) y) = true
    rotate_left
    · exact (bifT (show (!(formB p (W (r * k)) y)) = true by rw [Bool.eq_false_iff.2 c3]; rfl) _ _).trans (errL (by (repeat' split) <;> first | rfl | omega | (exfalso; simp_all; done) | (exfalso; simp_all; omega)))
    rw [bifF (show (!(formB p (W (r * k)) y)) = false by rw [c3]; rfl)]
    by_cases c4 : (zero9 y) = true
    · exact (bifT (c4) _ _).trans (errL (by (repeat' split) <;> first | rfl | omega | (exfalso; simp_all; done) | (exfalso; simp_all; omega)))
    rw [bifF (Bool.eq_false_iff.2 c4)]
    rw [chkd (show (0 ≤ i) ∧ (i < ((n : Nat) : Int)) by omega)]
    by_cases c5 : (intsFrom y 0 9) = (intsFrom (q (Int.toNat i)) 0 9)
    · exact (bifT (decide_eq_true c5) _ _).trans (errL (by (repeat' split) <;> first | rfl | omega | (exfalso; simp_all; done) | (exfalso; simp_all; omega)))
    rw [bifF (decide_eq_false c5)]
    by_cases c6 : ((n : Nat) : Int) = 30
    · exact (bifT (decide_eq_true c6) _ _).trans (errL (by (repeat' split) <;> first | rfl | omega | (exfalso; simp_all; done) | (exfalso; simp_all; omega)))
    rw [bifF (decide_eq_false c6)]
    exfalso
    revert h0
    (repeat' split) <;> first | rfl | omega | (exfalso; simp_all; done) | (exfalso; simp_all; omega)
theorem specSplit1_err (y : Nat → Int) (h0 : codeSplitProduct ⟨p, r, k, c, n, q⟩ i 1 y ≠ 0) : fnK Try.prog (kc (tabOf [e_l01Is, e_l01Form, e_l01Add, e_l03Told])) 40 (rnd [] 40 0) 41 [.agg [I p, I r, I k, I c, .vi .u8 27 n q], I i, I 1, .agg (cellsI .u8 9 y)] done = some (.tup [.agg [I 0, I 0, I 0, I 0, .nilsl], I (codeSplitProduct ⟨p, r, k, c, n, q⟩ i 1 y)], [], true) := by
  refine (sspecSplit1 p r k c n q i y 0).trans ?_
  cases hB : isB p r k c n q with
  | false => exact (bifT rfl _ _).trans (errL (by unfold codeSplitProduct; simp only [hB]; rfl))
  | true =>
    have hn := (isB_sizes hB).2.2.2.2.1
    rw [codeSplit_eq hB] at h0 ⊢
    simp only [eqS1, pf1, decide_eq_true_eq] at h0 ⊢
    rw [formB_pA]
    rw [bifF (show (!true) = false from rfl), W_of (n := (n : Int) - 1) (by omega) (by omega)]
    by_cases c1 : 0 ≤ i
    rotate_left
    · exact (bifF (decide_eq_false c1) _ _).trans (errL (by (repeat' split) <;> first | rfl | omega | (exfalso; simp_all; done) | (exfalso; simp_all; omega)))
    rw [bifT (decide_eq_true c1)]
    by_cases c2 : i ≤ ((n : Int) - 1)
    rotate_left
    · exact (bifT (show (!decide (i ≤ ((n : Int) - 1))) = true by simp only [c2, decide_false, Bool.not_false]) _ _).trans (errL (by (repeat' split) <;> first | rfl | omega | (exfalso; simp_all; done) | (exfalso; simp_all; omega)))
    rw [bifF (show (!decide (i ≤ ((n : Int) - 1))) = false by simp only [c2, decide_true, Bool.not_true])]
    by_cases c3 : (formB p (W (k * c)) y) = true
    rotate_left
    · exact (bifT (show (!(formB p (W (k * c)) y)) = true by rw [Bool.eq_false_iff.2 c3]; rfl) _ _).trans (errL (by (repeat' split) <;> first | rfl | omega | (exfalso; simp_all; done) | (exfalso; simp_all; omega)))
    rw [bifF (show (!(formB p (W (k * c)) y)) = false by rw [c3]; rfl)]
    by_cases c4 : (zero9 y) = true
    · exact (bifT (c4) _ _).trans (errL (by (repeat' split) <;> first | rfl | omega | (exfalso; simp_all; done) | (exfalso; simp_all; omega)))
    rw [bifF (Bool.eq_false_iff.2 c4)]
    rw [chkd (show (0 ≤ i) ∧ (i < ((n : Nat) : Int)) by omega)]
    by_cases c5 : (intsFrom y 0 9) = (intsFrom (q (Int.toNat i)) 9 9)
    · exact (bifT (decide_eq_true c5) _ _).trans (errL (by (repeat' split) <;> first | rfl | omega | (exfalso; simp_all; done) | (exfalso; simp_all; omega)))
    rw [bifF (decide_eq_false c5)]
    by_cases c6 : ((n : Nat) : Int) = 30
    · exact (bifT (decide_eq_true c6) _ _).trans (errL (by (repeat' split) <;> first | rfl | omega | (exfalso; simp_all; done) | (exfalso; simp_all; omega)))
    rw [bifF (decide_eq_false c6)]
    exfalso
    revert h0
    (repeat' split) <;> first | rfl | omega | (exfalso; simp_all; done) | (exfalso; simp_all; omega)
theorem specSplit2_err (y : Nat → Int) (h0 : codeSplitProduct ⟨p, r, k, c, n, q⟩ i 2 y ≠ 0) : fnK Try.prog (kc (tabOf [e_l01Is, e_l01Form, e_l01Add, e_l03Told])) 40 (rnd [] 40 0) 41 [.agg [I p, I r, I k, I c, .vi .u8 27 n q], I i, I 2, .agg (cellsI .u8 9 y)] done = some (.tup [.agg [I 0, I 0, I 0, I 0, .nilsl], I (codeSplitProduct ⟨p, r, k, c, n, q⟩ i 2 y)], [], true) := by
  refine (sspecSplit2 p r k c n q i y 0).trans ?_
  cases hB : isB p r k c n q with
  | false => exact (bifT rfl _ _).trans (errL (by unfold codeSplitProduct; simp only [hB]; rfl))
  | true =>
    have hn := (isB_sizes hB).2.2.2.2.1
    rw [codeSplit_eq hB] at h0 ⊢
    simp only [eqS2, pf2, decide_eq_true_eq] at h0 ⊢
    rw [formB_pA]
    rw [bifF (show (!true) = false from rfl), W_of (n := (n : Int) - 1) (by omega) (by omega)]
    by_cases c1 : 0 ≤ i
    rotate_left
    · exact (bifF (decide_eq_false c1) _ _).trans (errL (by (repeat' split) <;> first | rfl | omega | (exfalso; simp_all; done) | (exfalso; simp_all; omega)))
    rw [bifT (decide_eq_true c1)]
    by_cases c2 : i ≤ ((n : Int) - 1)
    rotate_left
    · exact (bifT (show (!decide (i ≤ ((n : Int) - 1))) = true by simp only [c2, decide_false, Bool.not_false]) _ _).trans (errL (by (repeat' split) <;> first | rfl | omega | (exfalso; simp_all; done) | (exfalso; simp_all; omega)))
    rw [bifF (show (!decide (i ≤ ((n : Int) - 1))) = false by simp only [c2, decide_true, Bool.not_true])]
    by_cases c3 : (formB p (W (r * c)) y) = true
    rotate_left
    · exact (bifT (show (!(formB p (W (r * c)) y)) = true by rw [Bool.eq_false_iff.2 c3]; rfl) _ _).trans (errL (by (repeat' split) <;> first | rfl | omega | (exfalso; simp_all; done) | (exfalso; simp_all; omega)))
    rw [bifF (show (!(formB p (W (r * c)) y)) = false by rw [c3]; rfl)]
    by_cases c4 : (zero9 y) = true
    · exact (bifT (c4) _ _).trans (errL (by (repeat' split) <;> first | rfl | omega | (exfalso; simp_all; done) | (exfalso; simp_all; omega)))
    rw [bifF (Bool.eq_false_iff.2 c4)]
    rw [chkd (show (0 ≤ i) ∧ (i < ((n : Nat) : Int)) by omega)]
    by_cases c5 : (intsFrom y 0 9) = (intsFrom (q (Int.toNat i)) 18 9)
    · exact (bifT (decide_eq_true c5) _ _).trans (errL (by (repeat' split) <;> first | rfl | omega | (exfalso; simp_all; done) | (exfalso; simp_all; omega)))
    rw [bifF (decide_eq_false c5)]
    by_cases c6 : ((n : Nat) : Int) = 30
    · exact (bifT (decide_eq_true c6) _ _).trans (errL (by (repeat' split) <;> first | rfl | omega | (exfalso; simp_all; done) | (exfalso; simp_all; omega)))
    rw [bifF (decide_eq_false c6)]
    exfalso
    revert h0
    (repeat' split) <;> first | rfl | omega | (exfalso; simp_all; done) | (exfalso; simp_all; omega)
theorem specSplitE_err (f : Int) (y : Nat → Int) (hf : ¬ (0 ≤ f ∧ f ≤ 2)) (h0 : codeSplitProduct ⟨p, r, k, c, n, q⟩ i f y ≠ 0) : fnK Try.prog (kc (tabOf [e_l01Is, e_noLength])) 40 (rnd [] 40 0) 41 [.agg [I p, I r, I k, I c, .vi .u8 27 n q], I i, I f, .agg (cellsI .u8 9 y)] done = some (.tup [.agg [I 0, I 0, I 0, I 0, .nilsl], I (codeSplitProduct ⟨p, r, k, c, n, q⟩ i f y)], [], true) := by
  refine (sspecSplitE p r k c n q i f y 0).trans ?_
  cases hB : isB p r k c n q with
  | false => exact (bifT rfl _ _).trans (errL (by unfold codeSplitProduct; simp only [hB]; rfl))
  | true =>
    have hn := (isB_sizes hB).2.2.2.2.1
    rw [codeSplit_eq hB] at h0 ⊢
    rw [bifF (show (!true) = false from rfl), W_of (n := (n : Int) - 1) (by omega) (by omega)]
    by_cases c1 : 0 ≤ i
    rotate_left
    · exact (bifF (decide_eq_false c1) _ _).trans (errL (by (repeat' split) <;> first | rfl | omega | (exfalso; simp_all; done) | (exfalso; simp_all; omega)))
    rw [bifT (decide_eq_true c1)]
    by_cases c2 : i ≤ ((n : Int) - 1)
    rotate_left
    · exact (bifT (show (!decide (i ≤ ((n : Int) - 1))) = true by simp only [c2, decide_false, Bool.not_false]) _ _).trans (errL (by (repeat' split) <;> first | rfl | omega | (exfalso; simp_all; done) | (exfalso; simp_all; omega)))
    rw [bifF (show (!decide (i ≤ ((n : Int) - 1))) = false by simp only [c2, decide_true, Bool.not_true])]
    by_cases c3 : 0 ≤ f
    rotate_left
    · exact (bifF (decide_eq_false c3) _ _).trans (errL (by (repeat' split) <;> first | rfl | omega | (exfalso; simp_all; done) | (exfalso; simp_all; omega)))
    rw [bifT (decide_eq_true c3)]
    rw [chkb (show (!decide (f ≤ 2)) = true by rw [decide_eq_false (show ¬ (f ≤ 2) by omega)]; rfl)]
    exact errL (by (repeat' split) <;> first | rfl | omega | (exfalso; simp_all; done) | (exfalso; simp_all; omega))
theorem implSplit0_err (y : Nat → Int) (h0 : codeSplitProduct ⟨p, r, k, c, n, q⟩ i 0 y ≠ 0) : fnK Try.prog (kc (tabOf [e_IsScheme, e_isForm, e_sum])) 40 (rnd [] 40 0) 43 [.agg [I p, I r, I k, I c, .vi .u8 27 n q], I i, I 0, .agg (cellsI .u8 9 y)] done = some (.tup [.agg [I 0, I 0, I 0, I 0, .nilsl], I (codeSplitProduct ⟨p, r, k, c, n, q⟩ i 0 y)], [], true) := by
  refine (simplSplit0 p r k c n q i y 0).trans ?_
  cases hB : isB p r k c n q with
  | false => exact (bifT rfl _ _).trans (errL (by unfold codeSplitProduct; simp only [hB]; rfl))
  | true =>
    have hn := (isB_sizes hB).2.2.2.2.1
    rw [codeSplit_eq hB] at h0 ⊢
    simp only [eqS0, pf0, decide_eq_true_eq] at h0 ⊢
    rw [formB_pA]
    rw [bifF (show (!true) = false from rfl)]
    by_cases c1 : i < 0
    · exact (bifT (decide_eq_true c1) _ _).trans (errL (by (repeat' split) <;> first | rfl | omega | (exfalso; simp_all; done) | (exfalso; simp_all; omega)))
    rw [bifF (decide_eq_false c1)]
    by_cases c2 : ((n : Nat) : Int) ≤ i
    · exact (bifT (decide_eq_true c2) _ _).trans (errL (by (repeat' split) <;> first | rfl | omega | (exfalso; simp_all; done) | (exfalso; simp_all; omega)))
    rw [bifF (decide_eq_false c2)]
    by_cases c3 : (formB p (W (r * k)) y) = true
    rotate_left
    · exact (bifT (show (!(formB p (W (r * k)) y)) = true by rw [Bool.eq_false_iff.2 c3]; rfl) _ _).trans (errL (by (repeat' split) <;> first | rfl | omega | (exfalso; simp_all; done) | (exfalso; simp_all; omega)))
    rw [bifF (show (!(formB p (W (r * k)) y)) = false by rw [c3]; rfl)]
    rw [chkd (show (0 ≤ i) ∧ (i < ((n : Nat) : Int)) by omega)]
    by_cases c4 : (zero9 y) = true
    · exact (bifT (c4) _ _).trans (errL (by (repeat' split) <;> first | rfl | omega | (exfalso; simp_all; done) | (exfalso; simp_all; omega)))
    rw [bifF (Bool.eq_false_iff.2 c4)]
    by_cases c5 : (intsFrom y 0 9) = (intsFrom (q (Int.toNat i)) 0 9)
    · exact (bifT (decide_eq_true c5) _ _).trans (errL (by (repeat' split) <;> first | rfl | omega | (exfalso; simp_all; done) | (exfalso; simp_all; omega)))
    rw [bifF (decide_eq_false c5)]
    by_cases c6 : ((n : Nat) : Int) = 30
    · exact (bifT (decide_eq_true c6) _ _).trans (errL (by (repeat' split) <;> first | rfl | omega | (exfalso; simp_all; done) | (exfalso; simp_all; omega)))
    rw [bifF (decide_eq_false c6)]
    exfalso
    revert h0
    (repeat' split) <;> first | rfl | omega | (exfalso; simp_all; done) | (exfalso; simp_all; omega)
theorem implSplit1_err (y : Nat → Int) (h0 : codeSplitProduct ⟨p, r, k, c, n, q⟩ i 1 y ≠ 0) : fnK Try.prog (kc (tabOf [e_IsScheme, e_isForm, e_sum])) 40 (rnd [] 40 0) 43 [.agg [I p, I r, I k, I c, .vi .u8 27 n q], I i, I 1, .agg (cellsI .u8 9 y)] done = some (.tup [.agg [I 0, I 0, I 0, I 0, .nilsl], I (codeSplitProduct ⟨p, r, k, c, n, q⟩ i 1 y)], [], true) := by
  refine (simplSplit1 p r k c n q i y 0).trans ?_
  cases hB : isB p r k c n q with
  | false => exact (bifT rfl _ _).trans (errL (by unfold codeSplitProduct; simp only [hB]; rfl))
  | true =>
    have hn := (isB_sizes hB).2.2.2.2.1
    rw [codeSplit_eq hB] at h0 ⊢
    simp only [eqS1, pf1, decide_eq_true_eq] at h0 ⊢
    rw [formB_pA]
    rw [bifF (show (!true) = false from rfl)]
    by_cases c1 : i < 0
    · exact (bifT (decide_eq_true c1) _ _).trans (errL (by (repeat' split) <;> first | rfl | omega | (exfalso; simp_all; done) | (exfalso; simp_all; omega)))
    rw [bifF (decide_eq_false c1)]
    by_cases c2 : ((n : Nat) : Int) ≤ i
    · exact (bifT (decide_eq_true c2) _ _).trans (errL (by (repeat' split) <;> first | rfl | omega | (exfalso; simp_all; done) | (exfalso; simp_all; omega)))
    rw [bifF (decide_eq_false c2)]
    by_cases c3 : (formB p (W (k * c)) y) = true
    rotate_left
    · exact (bifT (show (!(formB p (W (k * c)) y)) = true by rw [Bool.eq_false_iff.2 c3]; rfl) _ _).trans (errL (by (repeat' split) <;> first | rfl | omega | (exfalso; simp_all; done) | (exfalso; simp_all; omega)))
    rw [bifF (show (!(formB p (W (k * c)) y)) = false by rw [c3]; rfl)]
    rw [chkd (show (0 ≤ i) ∧ (i < ((n : Nat) : Int)) by omega)]
    by_cases c4 : (zero9 y) = true
    · exact (bifT (c4) _ _).trans (errL (by (repeat' split) <;> first | rfl | omega | (exfalso; simp_all; done) | (exfalso; simp_all; omega)))
    rw [bifF (Bool.eq_false_iff.2 c4)]
    by_cases c5 : (intsFrom y 0 9) = (intsFrom (q (Int.toNat i)) 9 9)
    · exact (bifT (decide_eq_true c5) _ _).trans (errL (by (repeat' split) <;> first | rfl | omega | (exfalso; simp_all; done) | (exfalso; simp_all; omega)))
    rw [bifF (decide_eq_false c5)]
    by_cases c6 : ((n : Nat) : Int) = 30
    · exact (bifT (decide_eq_true c6) _ _).trans (errL (by (repeat' split) <;> first | rfl | omega | (exfalso; simp_all; done) | (exfalso; simp_all; omega)))
    rw [bifF (decide_eq_false c6)]
    exfalso
    revert h0
    (repeat' split) <;> first | rfl | omega | (exfalso; simp_all; done) | (exfalso; simp_all; omega)
theorem implSplit2_err (y : Nat → Int) (h0 : codeSplitProduct ⟨p, r, k, c, n, q⟩ i 2 y ≠ 0) : fnK Try.prog (kc (tabOf [e_IsScheme, e_isForm, e_sum])) 40 (rnd [] 40 0) 43 [.agg [I p, I r, I k, I c, .vi .u8 27 n q], I i, I 2, .agg (cellsI .u8 9 y)] done = some (.tup [.agg [I 0, I 0, I 0, I 0, .nilsl], I (codeSplitProduct ⟨p, r, k, c, n, q⟩ i 2 y)], [], true) := by
  refine (simplSplit2 p r k c n q i y 0).trans ?_
  cases hB : isB p r k c n q with
  | false => exact (bifT rfl _ _).trans (errL (by unfold codeSplitProduct; simp only [hB]; rfl))
  | true =>
    have hn := (isB_sizes hB).2.2.2.2.1
    rw [codeSplit_eq hB] at h0 ⊢
    simp only [eqS2, pf2, decide_eq_true_eq] at h0 ⊢
    rw [formB_pA]
    rw [bifF (show (!true) = false from rfl)]
    by_cases c1 : i < 0
    · exact (bifT (decide_eq_true c1) _ _).trans (errL (by (repeat' split) <;> first | rfl | omega | (exfalso; simp_all; done) | (exfalso; simp_all; omega)))
    rw [bifF (decide_eq_false c1)]
    by_cases c2 : ((n : Nat) : Int) ≤ i
    · exact (bifT (decide_eq_true c2) _ _).trans (errL (by (repeat' split) <;> first | rfl | omega | (exfalso; simp_all; done) | (exfalso; simp_all; omega)))
    rw [bifF (decide_eq_false c2)]
    by_cases c3 : (formB p (W (r * c)) y) = true
    rotate_left
    · exact (bifT (show (!(formB p (W (r * c)) y)) = true by rw [Bool.eq_false_iff.2 c3]; rfl) _ _).trans (errL (by (repeat' split) <;> first | rfl | omega | (exfalso; simp_all; done) | (exfalso; simp_all; omega)))
    rw [bifF (show (!(formB p (W (r * c)) y)) = false by rw [c3]; rfl)]
    rw [chkd (show (0 ≤ i) ∧ (i < ((n : Nat) : Int)) by omega)]
    by_cases c4 : (zero9 y) = true
    · exact (bifT (c4) _ _).trans (errL (by (repeat' split) <;> first | rfl | omega | (exfalso; simp_all; done) | (exfalso; simp_all; omega)))
    rw [bifF (Bool.eq_false_iff.2 c4)]
    by_cases c5 : (intsFrom y 0 9) = (intsFrom (q (Int.toNat i)) 18 9)
    · exact (bifT (decide_eq_true c5) _ _).trans (errL (by (repeat' split) <;> first | rfl | omega | (exfalso; simp_all; done) | (exfalso; simp_all; omega)))
    rw [bifF (decide_eq_false c5)]
    by_cases c6 : ((n : Nat) : Int) = 30
    · exact (bifT (decide_eq_true c6) _ _).trans (errL (by (repeat' split) <;> first | rfl | omega | (exfalso; simp_all; done) | (exfalso; simp_all; omega)))
    rw [bifF (decide_eq_false c6)]
    exfalso
    revert h0
    (repeat' split) <;> first | rfl | omega | (exfalso; simp_all; done) | (exfalso; simp_all; omega)
theorem implSplitE_err (f : Int) (y : Nat → Int) (hf : ¬ (0 ≤ f ∧ f ≤ 2)) (h0 : codeSplitProduct ⟨p, r, k, c, n, q⟩ i f y ≠ 0) : fnK Try.prog (kc (tabOf [e_IsScheme, e_noPlaces])) 40 (rnd [] 40 0) 43 [.agg [I p, I r, I k, I c, .vi .u8 27 n q], I i, I f, .agg (cellsI .u8 9 y)] done = some (.tup [.agg [I 0, I 0, I 0, I 0, .nilsl], I (codeSplitProduct ⟨p, r, k, c, n, q⟩ i f y)], [], true) := by
  refine (simplSplitE p r k c n q i f y 0).trans ?_
  cases hB : isB p r k c n q with
  | false => exact (bifT rfl _ _).trans (errL (by unfold codeSplitProduct; simp only [hB]; rfl))
  | true =>
    have hn := (isB_sizes hB).2.2.2.2.1
    rw [codeSplit_eq hB] at h0 ⊢
    rw [bifF (show (!true) = false from rfl)]
    by_cases c1 : i < 0
    · exact (bifT (decide_eq_true c1) _ _).trans (errL (by (repeat' split) <;> first | rfl | omega | (exfalso; simp_all; done) | (exfalso; simp_all; omega)))
    rw [bifF (decide_eq_false c1)]
    by_cases c2 : ((n : Nat) : Int) ≤ i
    · exact (bifT (decide_eq_true c2) _ _).trans (errL (by (repeat' split) <;> first | rfl | omega | (exfalso; simp_all; done) | (exfalso; simp_all; omega)))
    rw [bifF (decide_eq_false c2)]
    by_cases c3 : f < 0
    · exact (bifT (decide_eq_true c3) _ _).trans (errL (by (repeat' split) <;> first | rfl | omega | (exfalso; simp_all; done) | (exfalso; simp_all; omega)))
    rw [bifF (decide_eq_false c3)]
    rw [chkd (show 2 < f by omega)]
    exact errL (by (repeat' split) <;> first | rfl | omega | (exfalso; simp_all; done) | (exfalso; simp_all; omega))
theorem split_cells0 (p s : Int) (n i : Nat) (y : Nat → Int) (q : Nat → Nat → Int) (hs : ∀ f g, sumQ p s f g = sumQ p (-1) f g) (a c : Nat) (ha : a < n + 1) (hc : c < 27) : splitQ p n i 0 y q a c = canonI (n + 1) 27 (fun a c1 => bif decide (a < n) then (bif a == i then prodQ y (pB (q i)) (pC (q i)) c1 else q a c1) else prodQ (sumQ p s (pA (q i)) (pA y)) (pB (q i)) (pC (q i)) c1) a c := by
  have hy : ∀ (x : Nat → Int) (j : Nat), j < 9 → sumQ p (-1) x y j = sumQ p (-1) x (pA y) j := fun x j hj => by unfold sumQ; rw [pA_get y hj]
  simp only [canonI, ha, hc, decide_true, Bool.and_self, cond_true, hs]
  unfold splitQ
  by_cases h : a < n
  · have h1 : ¬ a = n := by omega
    simp only [h, h1, decide_true, decide_false, cond_true, cond_false]
    by_cases h2 : a = i
    · subst h2
      simp only [decide_true, beq_self_eq_true, cond_true]
      exact prodQ_congr (fun _ hj => by first | rfl | exact pA_get _ hj) (fun _ _ => rfl) (fun _ _ => rfl) hc
    · have h2' : (a == i) = false := by simp [h2]
      simp only [h2, h2', decide_false, cond_false]
  · have h1 : a = n := by omega
    subst h1
    simp only [Nat.lt_irrefl, decide_true, decide_false, cond_true, cond_false]
    exact prodQ_congr (fun _ hj => by first | rfl | exact pA_get _ hj | exact hy _ _ hj) (fun _ hj => by first | rfl | exact hy _ _ hj) (fun _ hj => by first | rfl | exact hy _ _ hj) hc
theorem split_cells1 (p s : Int) (n i : Nat) (y : Nat → Int) (q : Nat → Nat → Int) (hs : ∀ f g, sumQ p s f g = sumQ p (-1) f g) (a c : Nat) (ha : a < n + 1) (hc : c < 27) : splitQ p n i 1 y q a c = canonI (n + 1) 27 (fun a c1 => bif decide (a < n) then (bif a == i then prodQ (q i) y (pC (q i)) c1 else q a c1) else prodQ (q i) (sumQ p s (pB (q i)) (pA y)) (pC (q i)) c1) a c := by
  have hy : ∀ (x : Nat → Int) (j : Nat), j < 9 → sumQ p (-1) x y j = sumQ p (-1) x (pA y) j := fun x j hj => by unfold sumQ; rw [pA_get y hj]
  simp only [canonI, ha, hc, decide_true, Bool.and_self, cond_true, hs]
  unfold splitQ
  by_cases h : a < n
  · have h1 : ¬ a = n := by omega
    simp only [h, h1, decide_true, decide_false, cond_true, cond_false]
    by_cases h2 : a = i
    · subst h2
      simp only [decide_true, beq_self_eq_true, cond_true]
      exact prodQ_congr (fun _ hj => by first | rfl | exact pA_get _ hj) (fun _ _ => rfl) (fun _ _ => rfl) hc
    · have h2' : (a == i) = false := by simp [h2]
      simp only [h2, h2', decide_false, cond_false]
  · have h1 : a = n := by omega
    subst h1
    simp only [Nat.lt_irrefl, decide_true, decide_false, cond_true, cond_false]
    exact prodQ_congr (fun _ hj => by first | rfl | exact pA_get _ hj | exact hy _ _ hj) (fun _ hj => by first | rfl | exact hy _ _ hj) (fun _ hj => by first | rfl | exact hy _ _ hj) hc
theorem split_cells2 (p s : Int) (n i : Nat) (y : Nat → Int) (q : Nat → Nat → Int) (hs : ∀ f g, sumQ p s f g = sumQ p (-1) f g) (a c : Nat) (ha : a < n + 1) (hc : c < 27) : splitQ p n i 2 y q a c = canonI (n + 1) 27 (fun a c1 => bif decide (a < n) then (bif a == i then prodQ (q i) (pB (q i)) y c1 else q a c1) else prodQ (q i) (pB (q i)) (sumQ p s (pC (q i)) (pA y)) c1) a c := by
  have hy : ∀ (x : Nat → Int) (j : Nat), j < 9 → sumQ p (-1) x y j = sumQ p (-1) x (pA y) j := fun x j hj => by unfold sumQ; rw [pA_get y hj]
  simp only [canonI, ha, hc, decide_true, Bool.and_self, cond_true, hs]
  unfold splitQ
  by_cases h : a < n
  · have h1 : ¬ a = n := by omega
    simp only [h, h1, decide_true, decide_false, cond_true, cond_false]
    by_cases h2 : a = i
    · subst h2
      simp only [decide_true, beq_self_eq_true, cond_true]
      exact prodQ_congr (fun _ hj => by first | rfl | exact pA_get _ hj) (fun _ _ => rfl) (fun _ _ => rfl) hc
    · have h2' : (a == i) = false := by simp [h2]
      simp only [h2, h2', decide_false, cond_false]
  · have h1 : a = n := by omega
    subst h1
    simp only [Nat.lt_irrefl, decide_true, decide_false, cond_true, cond_false]
    exact prodQ_congr (fun _ hj => by first | rfl | exact pA_get _ hj | exact hy _ _ hj) (fun _ hj => by first | rfl | exact hy _ _ hj) (fun _ hj => by first | rfl | exact hy _ _ hj) hc
theorem specSplit0_ok (y : Nat → Int) (h0 : codeSplitProduct ⟨p, r, k, c, n, q⟩ i 0 y = 0) (hr : rngB n q = true) (hry : rng9 y = true) : Gives (.tup [.agg [I p, I r, I k, I c, .sl 0 0 (n + 1) (n + 1)], I 0]) (n + 1) (splitQ p n i.toNat 0 y q) (fnK Try.prog (kc (tabOf [e_l01Is, e_l01Form, e_l01Add, e_l03Told])) 40 (rnd [] 40 0) 41 [.agg [I p, I r, I k, I c, .vi .u8 27 n q], I i, I 0, .agg (cellsI .u8 9 y)] done) := by
  obtain ⟨hB, hi, _, hF, hz, he, h30⟩ := codeSplit0 h0
  obtain ⟨hp', _, _, _, hn, _⟩ := isB_sizes hB
  obtain ⟨i', rfl⟩ : ∃ i' : Nat, i = i' := ⟨i.toNat, by omega⟩
  have hi' : i' < n := by omega
  obtain ⟨hp, a1, b1, c1, _⟩ := mod9_of hB hr hi'
  have hM := mod9_form hF hry
  have hM' : mod9 p (pA y) = true := (mod9_pA p y).trans hM
  rw [pf0, ← formB_pA] at hF
  rw [toN] at he
  have heq := he
  rw [eqS0, decide_eq_false_iff_not] at heq
  rw [sspecSplit0 p r k c n q i' y 0, W_of (n := (n : Int) - 1) (by omega) (by omega), bifF (show (!isB p r k c n q) = false by rw [hB]; rfl), toN, bifT (show (decide (0 ≤ (i' : Int))) = true from decide_eq_true (by omega)), bifF (show (!decide ((i' : Int) ≤ ((n : Int) - 1))) = false by rw [decide_eq_true (show ((i' : Int) ≤ ((n : Int) - 1)) from by omega)]; rfl), bifF (show (!(formB p (W (r * k)) (pA y))) = false by rw [show (formB p (W (r * k)) (pA y)) = true from hF]; rfl), bifF (show (zero9 y) = false from hz), chkd (show (0 ≤ (i' : Int)) ∧ ((i' : Int) < ((n : Nat) : Int)) by omega), bifF (show (decide ((intsFrom y 0 9) = (intsFrom (q (i')) 0 9))) = false from decide_eq_false (heq)), bifF (show (decide (((n : Nat) : Int) = 30)) = false from decide_eq_false (by omega))]
  have f1 : n ≤ 4294967296 := by omega
  have f2 : n + 1 ≤ 4294967296 := by omega
  have f4 : n + 1 ≤ 1048576 := by omega
  have f5 : 0 ≤ p - 1 ∧ p - 1 ≤ 100 := by omega
  have f9 : ¬ (n = 0 ∧ ¬ q 0 0 = 0) := by omega
  simp only [chknd f9, toN, Nat.zero_add, Nat.sub_zero, Nat.le_refl, f1, f2, f4, f5, hi.1, hi.2, hi', hp, a1, b1, c1, hM', beq_self_eq_true, and_self, decide_true, Bool.and_self, chk_true]
  exact (kept_gives (split_cells0 p (-1) n i' y q (fun f g => rfl))).all (fun a ha => split_nz hB hr hi' hM hz he ha)
theorem specSplit1_ok (y : Nat → Int) (h0 : codeSplitProduct ⟨p, r, k, c, n, q⟩ i 1 y = 0) (hr : rngB n q = true) (hry : rng9 y = true) : Gives (.tup [.agg [I p, I r, I k, I c, .sl 0 0 (n + 1) (n + 1)], I 0]) (n + 1) (splitQ p n i.toNat 1 y q) (fnK Try.prog (kc (tabOf [e_l01Is, e_l01Form, e_l01Add, e_l03Told])) 40 (rnd [] 40 0) 41 [.agg [I p, I r, I k, I c, .vi .u8 27 n q], I i, I 1, .agg (cellsI .u8 9 y)] done) := by
  obtain ⟨hB, hi, _, hF, hz, he, h30⟩ := codeSplit0 h0
  obtain ⟨hp', _, _, _, hn, _⟩ := isB_sizes hB
  obtain ⟨i', rfl⟩ : ∃ i' : Nat, i = i' := ⟨i.toNat, by omega⟩
  have hi' : i' < n := by omega
  obtain ⟨hp, a1, b1, c1, _⟩ := mod9_of hB hr hi'
  have hM := mod9_form hF hry
  have hM' : mod9 p (pA y) = true := (mod9_pA p y).trans hM
  rw [pf1, ← formB_pA] at hF
  rw [toN] at he
  have heq := he
  rw [eqS1, decide_eq_false_iff_not] at heq
  rw [sspecSplit1 p r k c n q i' y 0, W_of (n := (n : Int) - 1) (by omega) (by omega), bifF (show (!isB p r k c n q) = false by rw [hB]; rfl), toN, bifT (show (decide (0 ≤ (i' : Int))) = true from decide_eq_true (by omega)), bifF (show (!decide ((i' : Int) ≤ ((n : Int) - 1))) = false by rw [decide_eq_true (show ((i' : Int) ≤ ((n : Int) - 1)) from by omega)]; rfl), bifF (show (!(formB p (W (k * c)) (pA y))) = false by rw [show (formB p (W (k * c)) (pA y)) = true from hF]; rfl), bifF (show (zero9 y) = false from hz), chkd (show (0 ≤ (i' : Int)) ∧ ((i' : Int) < ((n : Nat) : Int)) by omega), bifF (show (decide ((intsFrom y 0 9) = (intsFrom (q (i')) 9 9))) = false from decide_eq_false (heq)), bifF (show (decide (((n : Nat) : Int) = 30)) = false from decide_eq_false (by omega))]
  have f1 : n ≤ 4294967296 := by omega
  have f2 : n + 1 ≤ 4294967296 := by omega
  have f4 : n + 1 ≤ 1048576 := by omega
  have f5 : 0 ≤ p - 1 ∧ p - 1 ≤ 100 := by omega
  have f9 : ¬ (n = 0 ∧ ¬ q 0 0 = 0) := by omega
  simp only [chknd f9, toN, Nat.zero_add, Nat.sub_zero, Nat.le_refl, f1, f2, f4, f5, hi.1, hi.2, hi', hp, a1, b1, c1, hM', beq_self_eq_true, and_self, decide_true, Bool.and_self, chk_true]
  exact (kept_gives (split_cells1 p (-1) n i' y q (fun f g => rfl))).all (fun a ha => split_nz hB hr hi' hM hz he ha)
theorem specSplit2_ok (y : Nat → Int) (h0 : codeSplitProduct ⟨p, r, k, c, n, q⟩ i 2 y = 0) (hr : rngB n q = true) (hry : rng9 y = true) : Gives (.tup [.agg [I p, I r, I k, I c, .sl 0 0 (n + 1) (n + 1)], I 0]) (n + 1) (splitQ p n i.toNat 2 y q) (fnK Try.prog (kc (tabOf [e_l01Is, e_l01Form, e_l01Add, e_l03Told])) 40 (rnd [] 40 0) 41 [.agg [I p, I r, I k, I c, .vi .u8 27 n q], I i, I 2, .agg (cellsI .u8 9 y)] done) := by
  obtain ⟨hB, hi, _, hF, hz, he, h30⟩ := codeSplit0 h0
  obtain ⟨hp', _, _, _, hn, _⟩ := isB_sizes hB
  obtain ⟨i', rfl⟩ : ∃ i' : Nat, i = i' := ⟨i.toNat, by omega⟩
  have hi' : i' < n := by omega
  obtain ⟨hp, a1, b1, c1, _⟩ := mod9_of hB hr hi'
  have hM := mod9_form hF hry
  have hM' : mod9 p (pA y) = true := (mod9_pA p y).trans hM
  rw [pf2, ← formB_pA] at hF
  rw [toN] at he
  have heq := he
  rw [eqS2, decide_eq_false_iff_not] at heq
  rw [sspecSplit2 p r k c n q i' y 0, W_of (n := (n : Int) - 1) (by omega) (by omega), bifF (show (!isB p r k c n q) = false by rw [hB]; rfl), toN, bifT (show (decide (0 ≤ (i' : Int))) = true from decide_eq_true (by omega)), bifF (show (!decide ((i' : Int) ≤ ((n : Int) - 1))) = false by rw [decide_eq_true (show ((i' : Int) ≤ ((n : Int) - 1)) from by omega)]; rfl), bifF (show (!(formB p (W (r * c)) (pA y))) = false by rw [show (formB p (W (r * c)) (pA y)) = true from hF]; rfl), bifF (show (zero9 y) = false from hz), chkd (show (0 ≤ (i' : Int)) ∧ ((i' : Int) < ((n : Nat) : Int)) by omega), bifF (show (decide ((intsFrom y 0 9) = (intsFrom (q (i')) 18 9))) = false from decide_eq_false (heq)), bifF (show (decide (((n : Nat) : Int) = 30)) = false from decide_eq_false (by omega))]
  have f1 : n ≤ 4294967296 := by omega
  have f2 : n + 1 ≤ 4294967296 := by omega
  have f4 : n + 1 ≤ 1048576 := by omega
  have f5 : 0 ≤ p - 1 ∧ p - 1 ≤ 100 := by omega
  have f9 : ¬ (n = 0 ∧ ¬ q 0 0 = 0) := by omega
  simp only [chknd f9, toN, Nat.zero_add, Nat.sub_zero, Nat.le_refl, f1, f2, f4, f5, hi.1, hi.2, hi', hp, a1, b1, c1, hM', beq_self_eq_true, and_self, decide_true, Bool.and_self, chk_true]
  exact (kept_gives (split_cells2 p (-1) n i' y q (fun f g => rfl))).all (fun a ha => split_nz hB hr hi' hM hz he ha)
theorem implSplit0_ok (y : Nat → Int) (h0 : codeSplitProduct ⟨p, r, k, c, n, q⟩ i 0 y = 0) (hr : rngB n q = true) (hry : rng9 y = true) : Gives (.tup [.agg [I p, I r, I k, I c, .sl 0 0 (n + 1) (n + 1)], I 0]) (n + 1) (splitQ p n i.toNat 0 y q) (fnK Try.prog (kc (tabOf [e_IsScheme, e_isForm, e_sum])) 40 (rnd [] 40 0) 43 [.agg [I p, I r, I k, I c, .vi .u8 27 n q], I i, I 0, .agg (cellsI .u8 9 y)] done) := by
  obtain ⟨hB, hi, _, hF, hz, he, h30⟩ := codeSplit0 h0
  obtain ⟨hp', _, _, _, hn, _⟩ := isB_sizes hB
  obtain ⟨i', rfl⟩ : ∃ i' : Nat, i = i' := ⟨i.toNat, by omega⟩
  have hi' : i' < n := by omega
  obtain ⟨hp, a1, b1, c1, _⟩ := mod9_of hB hr hi'
  have hM := mod9_form hF hry
  have hM' : mod9 p (pA y) = true := (mod9_pA p y).trans hM
  rw [pf0, ← formB_pA] at hF
  rw [toN] at he
  have heq := he
  rw [eqS0, decide_eq_false_iff_not] at heq
  rw [simplSplit0 p r k c n q i' y 0, W_of (n := p - 1) (by omega) (by omega), bifF (show (!isB p r k c n q) = false by rw [hB]; rfl), toN, bifF (show (decide ((i' : Int) < 0)) = false from decide_eq_false (by omega)), bifF (show (decide (((n : Nat) : Int) ≤ (i' : Int))) = false from decide_eq_false (by omega)), bifF (show (!(formB p (W (r * k)) (pA y))) = false by rw [show (formB p (W (r * k)) (pA y)) = true from hF]; rfl), chkd (show (0 ≤ (i' : Int)) ∧ ((i' : Int) < ((n : Nat) : Int)) by omega), bifF (show (zero9 y) = false from hz), bifF (show (decide ((intsFrom y 0 9) = (intsFrom (q (i')) 0 9))) = false from decide_eq_false (heq)), bifF (show (decide (((n : Nat) : Int) = 30)) = false from decide_eq_false (by omega))]
  have f1 : n ≤ 4294967296 := by omega
  have f2 : n + 1 ≤ 4294967296 := by omega
  have f4 : n + 1 ≤ 1048576 := by omega
  have f5 : 0 ≤ p - 1 ∧ p - 1 ≤ 100 := by omega
  have f9 : ¬ (n = 0 ∧ ¬ q 0 0 = 0) := by omega
  simp only [chknd f9, toN, Nat.zero_add, Nat.sub_zero, Nat.le_refl, f1, f2, f4, f5, hi.1, hi.2, hi', hp, a1, b1, c1, hM', beq_self_eq_true, and_self, decide_true, Bool.and_self, chk_true]
  exact ⟨_, rfl, fun a c ha hc => (split_cells0 p (p - 1) n i' y q (fun f g => sumQ_neg p 1 f g) a c ha hc).trans (canon_cells _ ha hc)⟩
theorem implSplit1_ok (y : Nat → Int) (h0 : codeSplitProduct ⟨p, r, k, c, n, q⟩ i 1 y = 0) (hr : rngB n q = true) (hry : rng9 y = true) : Gives (.tup [.agg [I p, I r, I k, I c, .sl 0 0 (n + 1) (n + 1)], I 0]) (n + 1) (splitQ p n i.toNat 1 y q) (fnK Try.prog (kc (tabOf [e_IsScheme, e_isForm, e_sum])) 40 (rnd [] 40 0) 43 [.agg [I p, I r, I k, I c, .vi .u8 27 n q], I i, I 1, .agg (cellsI .u8 9 y)] done) := by
  obtain ⟨hB, hi, _, hF, hz, he, h30⟩ := codeSplit0 h0
  obtain ⟨hp', _, _, _, hn, _⟩ := isB_sizes hB
  obtain ⟨i', rfl⟩ : ∃ i' : Nat, i = i' := ⟨i.toNat, by omega⟩
  have hi' : i' < n := by omega
  obtain ⟨hp, a1, b1, c1, _⟩ := mod9_of hB hr hi'
  have hM := mod9_form hF hry
  have hM' : mod9 p (pA y) = true := (mod9_pA p y).trans hM
  rw [pf1, ← formB_pA] at hF
  rw [toN] at he
  have heq := he
  rw [eqS1, decide_eq_false_iff_not] at heq
  rw [simplSplit1 p r k c n q i' y 0, W_of (n := p - 1) (by omega) (by omega), bifF (show (!isB p r k c n q) = false by rw [hB]; rfl), toN, bifF (show (decide ((i' : Int) < 0)) = false from decide_eq_false (by omega)), bifF (show (decide (((n : Nat) : Int) ≤ (i' : Int))) = false from decide_eq_false (by omega)), bifF (show (!(formB p (W (k * c)) (pA y))) = false by rw [show (formB p (W (k * c)) (pA y)) = true from hF]; rfl), chkd (show (0 ≤ (i' : Int)) ∧ ((i' : Int) < ((n : Nat) : Int)) by omega), bifF (show (zero9 y) = false from hz), bifF (show (decide ((intsFrom y 0 9) = (intsFrom (q (i')) 9 9))) = false from decide_eq_false (heq)), bifF (show (decide (((n : Nat) : Int) = 30)) = false from decide_eq_false (by omega))]
  have f1 : n ≤ 4294967296 := by omega
  have f2 : n + 1 ≤ 4294967296 := by omega
  have f4 : n + 1 ≤ 1048576 := by omega
  have f5 : 0 ≤ p - 1 ∧ p - 1 ≤ 100 := by omega
  have f9 : ¬ (n = 0 ∧ ¬ q 0 0 = 0) := by omega
  simp only [chknd f9, toN, Nat.zero_add, Nat.sub_zero, Nat.le_refl, f1, f2, f4, f5, hi.1, hi.2, hi', hp, a1, b1, c1, hM', beq_self_eq_true, and_self, decide_true, Bool.and_self, chk_true]
  exact ⟨_, rfl, fun a c ha hc => (split_cells1 p (p - 1) n i' y q (fun f g => sumQ_neg p 1 f g) a c ha hc).trans (canon_cells _ ha hc)⟩
theorem implSplit2_ok (y : Nat → Int) (h0 : codeSplitProduct ⟨p, r, k, c, n, q⟩ i 2 y = 0) (hr : rngB n q = true) (hry : rng9 y = true) : Gives (.tup [.agg [I p, I r, I k, I c, .sl 0 0 (n + 1) (n + 1)], I 0]) (n + 1) (splitQ p n i.toNat 2 y q) (fnK Try.prog (kc (tabOf [e_IsScheme, e_isForm, e_sum])) 40 (rnd [] 40 0) 43 [.agg [I p, I r, I k, I c, .vi .u8 27 n q], I i, I 2, .agg (cellsI .u8 9 y)] done) := by
  obtain ⟨hB, hi, _, hF, hz, he, h30⟩ := codeSplit0 h0
  obtain ⟨hp', _, _, _, hn, _⟩ := isB_sizes hB
  obtain ⟨i', rfl⟩ : ∃ i' : Nat, i = i' := ⟨i.toNat, by omega⟩
  have hi' : i' < n := by omega
  obtain ⟨hp, a1, b1, c1, _⟩ := mod9_of hB hr hi'
  have hM := mod9_form hF hry
  have hM' : mod9 p (pA y) = true := (mod9_pA p y).trans hM
  rw [pf2, ← formB_pA] at hF
  rw [toN] at he
  have heq := he
  rw [eqS2, decide_eq_false_iff_not] at heq
  rw [simplSplit2 p r k c n q i' y 0, W_of (n := p - 1) (by omega) (by omega), bifF (show (!isB p r k c n q) = false by rw [hB]; rfl), toN, bifF (show (decide ((i' : Int) < 0)) = false from decide_eq_false (by omega)), bifF (show (decide (((n : Nat) : Int) ≤ (i' : Int))) = false from decide_eq_false (by omega)), bifF (show (!(formB p (W (r * c)) (pA y))) = false by rw [show (formB p (W (r * c)) (pA y)) = true from hF]; rfl), chkd (show (0 ≤ (i' : Int)) ∧ ((i' : Int) < ((n : Nat) : Int)) by omega), bifF (show (zero9 y) = false from hz), bifF (show (decide ((intsFrom y 0 9) = (intsFrom (q (i')) 18 9))) = false from decide_eq_false (heq)), bifF (show (decide (((n : Nat) : Int) = 30)) = false from decide_eq_false (by omega))]
  have f1 : n ≤ 4294967296 := by omega
  have f2 : n + 1 ≤ 4294967296 := by omega
  have f4 : n + 1 ≤ 1048576 := by omega
  have f5 : 0 ≤ p - 1 ∧ p - 1 ≤ 100 := by omega
  have f9 : ¬ (n = 0 ∧ ¬ q 0 0 = 0) := by omega
  simp only [chknd f9, toN, Nat.zero_add, Nat.sub_zero, Nat.le_refl, f1, f2, f4, f5, hi.1, hi.2, hi', hp, a1, b1, c1, hM', beq_self_eq_true, and_self, decide_true, Bool.and_self, chk_true]
  exact ⟨_, rfl, fun a c ha hc => (split_cells2 p (p - 1) n i' y q (fun f g => sumQ_neg p 1 f g) a c ha hc).trans (canon_cells _ ha hc)⟩
end
theorem form9_eq {x : AV} {y : Nat → Int} (h : form9 x = some y) : x = .agg (cellsI .u8 9 y) := by
  unfold form9 at h
  split at h
  · simp only [Option.map_eq_some_iff] at h
    obtain ⟨l, hl, rfl⟩ := h
    rw [u8s_eq hl]
  · cases h
theorem toForm_c (y : Nat → Int) : fnK Try.prog (kc (tabOf [])) 40 (rnd [] 40 10) 42 [.agg (cellsI .u8 9 y)] done = some (.agg (cellsI .u8 9 y), [], true) := by kernel_rfl
theorem toForm_ok : EntOk e_toForm := by
  intro vs v new h
  unfold e_toForm at h
  simp only at h
  split at h
  · simp only [Option.map_eq_some_iff, Prod.mk.injEq, true_and] at h
    obtain ⟨y, hy, rfl, rfl⟩ := h
    rw [form9_eq hy]
    exact ent_run none_ok rfl same_weak rfl rfl (toForm_c y) (cleanL_cells _ _ _ _) cleanB_nil
  · cases h
theorem ce_specSplitProduct_ok : CEntOk ce_specSplitProduct := by
  intro vs a h hv
  unfold ce_specSplitProduct g_split at h
  simp only at h
  split at h
  · rename_i x i f z
    simp only [Option.bind_eq_some_iff, Option.map_eq_some_iff] at h
    obtain ⟨s, hs, y, hy, rfl⟩ := h
    rw [form9_eq hy]
    have hnl : allNoL [I i, I f, .agg (cellsI .u8 9 y)] = true := rfl
    by_cases hf : 0 ≤ f ∧ f ≤ 2
    · have tr {v : AV} {new new' : List KB} := more_told (f := ce_specSplitProduct.1) (n := 40) (m := rnd [] 40 0) (v := v) (new := new) (new' := new') (l := [e_l01Is, e_l01Form, e_l01Add, e_l03Told]) (ml := []) hs (rest := [I i, I f, .agg (cellsI .u8 9 y)]) hnl (by simp [l01Is_ok, l01Form_ok, l01Add_ok, l03Told_ok]) none_mok rfl rfl
      have hf' : f = 0 ∨ f = 1 ∨ f = 2 := by omega
      rcases hf' with rfl | rfl | rfl
      · refine sAns_told hv (fun h0 => tr (specSplit0_err s.p s.r s.m s.c s.n s.q i y h0) rfl rfl cleanB_nil) (fun _ _ h => by cases h) (fun h0 hg _ => ?_)
        simp only [Bool.and_eq_true] at hg
        obtain ⟨q', hx, hq⟩ := specSplit0_ok s.p s.r s.m s.c s.n s.q i y h0 hg.1 hg.2
        exact tr hx (abs_ints hq) rfl (cleanB_ints _ _ _ _ _ _)
      · refine sAns_told hv (fun h0 => tr (specSplit1_err s.p s.r s.m s.c s.n s.q i y h0) rfl rfl cleanB_nil) (fun _ _ h => by cases h) (fun h0 hg _ => ?_)
        simp only [Bool.and_eq_true] at hg
        obtain ⟨q', hx, hq⟩ := specSplit1_ok s.p s.r s.m s.c s.n s.q i y h0 hg.1 hg.2
        exact tr hx (abs_ints hq) rfl (cleanB_ints _ _ _ _ _ _)
      · refine sAns_told hv (fun h0 => tr (specSplit2_err s.p s.r s.m s.c s.n s.q i y h0) rfl rfl cleanB_nil) (fun _ _ h => by cases h) (fun h0 hg _ => ?_)
        simp only [Bool.and_eq_true] at hg
        obtain ⟨q', hx, hq⟩ := specSplit2_ok s.p s.r s.m s.c s.n s.q i y h0 hg.1 hg.2
        exact tr hx (abs_ints hq) rfl (cleanB_ints _ _ _ _ _ _)
    · have tr {v : AV} {new new' : List KB} := more_told (f := ce_specSplitProduct.1) (n := 40) (m := rnd [] 40 0) (v := v) (new := new) (new' := new') (l := [e_l01Is, e_noLength]) (ml := []) hs (rest := [I i, I f, .agg (cellsI .u8 9 y)]) hnl (by simp [l01Is_ok]; exact none_ok' _) none_mok rfl rfl
      have hc : codeSplitProduct s i f y ≠ 0 := fun h0 => hf (codeSplit0 (p := s.p) (r := s.r) (k := s.m) (c := s.c) (n := s.n) (q := s.q) h0).2.2.1
      refine sAns_told hv (fun h0 => tr (specSplitE_err s.p s.r s.m s.c s.n s.q i f y hf h0) rfl rfl cleanB_nil) (fun h0 => absurd h0 hc) (fun h0 => absurd h0 hc)
  · cases h
theorem ce_implSplitProduct_ok : CEntOk ce_implSplitProduct := by
  intro vs a h hv
  unfold ce_implSplitProduct g_split at h
  simp only at h
  split at h
  · rename_i x i f z
    simp only [Option.bind_eq_some_iff, Option.map_eq_some_iff] at h
    obtain ⟨s, hs, y, hy, rfl⟩ := h
    rw [form9_eq hy]
    have hnl : allNoL [I i, I f, .agg (cellsI .u8 9 y)] = true := rfl
    by_cases hf : 0 ≤ f ∧ f ≤ 2
    · have tr {v : AV} {new new' : List KB} := more_told (f := ce_implSplitProduct.1) (n := 40) (m := rnd [] 40 0) (v := v) (new := new) (new' := new') (l := [e_IsScheme, e_isForm, e_sum]) (ml := []) hs (rest := [I i, I f, .agg (cellsI .u8 9 y)]) hnl (by simp [IsScheme_ok, isForm_ok, sum_ok]) none_mok rfl rfl
      have hf' : f = 0 ∨ f = 1 ∨ f = 2 := by omega
      rcases hf' with rfl | rfl | rfl
      · refine sAns_told hv (fun h0 => tr (implSplit0_err s.p s.r s.m s.c s.n s.q i y h0) rfl rfl cleanB_nil) (fun _ _ h => by cases h) (fun h0 hg _ => ?_)
        simp only [Bool.and_eq_true] at hg
        obtain ⟨q', hx, hq⟩ := implSplit0_ok s.p s.r s.m s.c s.n s.q i y h0 hg.1 hg.2
        exact tr hx (abs_ints hq) rfl (cleanB_ints _ _ _ _ _ _)
      · refine sAns_told hv (fun h0 => tr (implSplit1_err s.p s.r s.m s.c s.n s.q i y h0) rfl rfl cleanB_nil) (fun _ _ h => by cases h) (fun h0 hg _ => ?_)
        simp only [Bool.and_eq_true] at hg
        obtain ⟨q', hx, hq⟩ := implSplit1_ok s.p s.r s.m s.c s.n s.q i y h0 hg.1 hg.2
        exact tr hx (abs_ints hq) rfl (cleanB_ints _ _ _ _ _ _)
      · refine sAns_told hv (fun h0 => tr (implSplit2_err s.p s.r s.m s.c s.n s.q i y h0) rfl rfl cleanB_nil) (fun _ _ h => by cases h) (fun h0 hg _ => ?_)
        simp only [Bool.and_eq_true] at hg
        obtain ⟨q', hx, hq⟩ := implSplit2_ok s.p s.r s.m s.c s.n s.q i y h0 hg.1 hg.2
        exact tr hx (abs_ints hq) rfl (cleanB_ints _ _ _ _ _ _)
    · have tr {v : AV} {new new' : List KB} := more_told (f := ce_implSplitProduct.1) (n := 40) (m := rnd [] 40 0) (v := v) (new := new) (new' := new') (l := [e_IsScheme, e_noPlaces]) (ml := []) hs (rest := [I i, I f, .agg (cellsI .u8 9 y)]) hnl (by simp [IsScheme_ok]; exact none_ok' _) none_mok rfl rfl
      have hc : codeSplitProduct s i f y ≠ 0 := fun h0 => hf (codeSplit0 (p := s.p) (r := s.r) (k := s.m) (c := s.c) (n := s.n) (q := s.q) h0).2.2.1
      refine sAns_told hv (fun h0 => tr (implSplitE_err s.p s.r s.m s.c s.n s.q i f y hf h0) rfl rfl cleanB_nil) (fun h0 => absurd h0 hc) (fun h0 => absurd h0 hc)
  · cases h
theorem rng9_of {y : Nat → Int} (h : ∀ j, j < 9 → inB (y j)) : rng9 (pA y) = true := by
  unfold rng9
  rw [allN_iff]
  intro j _ hj
  rw [pA_get y (by omega)]
  have := h j (by omega)
  simp only [Bool.and_eq_true, decide_eq_true_eq]
  exact this
theorem mSplitProduct_fact {x : Sch} {i f : Int} {y : Nat → Int} (h : codeSplitProduct x i f y = 0) : (resSplitProduct x i f y).n ≤ 1048576 := by
  obtain ⟨hB, _⟩ := codeSplit0 (p := x.p) (r := x.r) (k := x.m) (c := x.c) (n := x.n) (q := x.q) h
  have hn := (isB_sizes hB).2.2.2.2.1
  show x.n + 1 ≤ 1048576
  omega
end Go.Proofs.Ytpjhlkidebcllaa.Fn
