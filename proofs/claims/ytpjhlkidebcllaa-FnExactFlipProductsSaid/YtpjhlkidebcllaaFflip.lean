/- What is told of flips is so. -/
import Derived.Test.YtpjhlkidebcllaaFplus
import Derived.Test.YtpjhlkidebcllaaEflip
namespace Go.Proofs.Ytpjhlkidebcllaa.Fn
open Go Go.Proofs.Ytpjhlkidebcllaa.Abs
set_option maxRecDepth 100000
set_option linter.unusedSimpArgs false
set_option linter.unusedVariables false
theorem codeFlip_eq {p r k c : Int} {n : Nat} {q : Nat → Nat → Int} (hB : isB p r k c n q = true) (i j f s : Int) : codeFlipProducts ⟨p, r, k, c, n, q⟩ i j f s = if ((0 ≤ i ∧ i < n) ∧ (0 ≤ j ∧ j < n)) ∧ ((0 ≤ f ∧ f ≤ 2) ∧ (1 ≤ s ∧ s < p)) then (if i = j then 5 else if eqF (facF f (q i.toNat)) (facF f (q j.toNat)) = true then 0 else 5) else 2 := by
  unfold codeFlipProducts idxB
  simp only [hB, cond_true]
  by_cases c1 : 0 ≤ i <;> by_cases c2 : i < n <;> by_cases c3 : 0 ≤ j <;> by_cases c4 : j < n <;> by_cases c7 : 0 ≤ f <;> by_cases c8 : f ≤ 2 <;> by_cases c9 : 1 ≤ s <;> by_cases c10 : s < p <;> simp only [c1, c2, c3, c4, c7, c8, c9, c10, decide_true, decide_false, Bool.and_self, Bool.and_true, Bool.and_false, Bool.false_and, cond_true, cond_false, and_self, and_true, and_false, false_and, true_and, if_true, if_false]
  by_cases c5 : i = j <;> cases eqF (facF f (q i.toNat)) (facF f (q j.toNat)) <;> simp [c5]
theorem codeFlip0 {p r k c : Int} {n : Nat} {q : Nat → Nat → Int} {i j f s : Int} (h : codeFlipProducts ⟨p, r, k, c, n, q⟩ i j f s = 0) : isB p r k c n q = true ∧ (0 ≤ i ∧ i < n) ∧ (0 ≤ j ∧ j < n) ∧ i ≠ j ∧ (0 ≤ f ∧ f ≤ 2) ∧ (1 ≤ s ∧ s < p) ∧ eqF (facF f (q i.toNat)) (facF f (q j.toNat)) = true := by
  cases hB : isB p r k c n q with
  | false => unfold codeFlipProducts at h; simp [hB] at h
  | true =>
    rw [codeFlip_eq hB] at h
    refine ⟨rfl, ?_⟩
    split at h
    · split at h
      · omega
      · split at h
        · rename_i h1 h2 h3; exact ⟨h1.1.1, h1.1.2, h2, h1.2.1, h1.2.2, h3⟩
        · omega
    · omega
theorem eqF0 (x y : Nat → Int) : eqF (facF 0 x) (facF 0 y) = decide (intsFrom x 0 9 = intsFrom y 0 9) := rfl
theorem eqF1 (x y : Nat → Int) : eqF (facF 1 x) (facF 1 y) = decide (intsFrom x 9 9 = intsFrom y 9 9) := rfl
theorem eqF2 (x y : Nat → Int) : eqF (facF 2 x) (facF 2 y) = decide (intsFrom x 18 9 = intsFrom y 18 9) := rfl
section
variable (p r k c : Int) (n : Nat) (q : Nat → Nat → Int) (i j : Int)
theorem specFlip0_err (s : Int) (h0 : codeFlipProducts ⟨p, r, k, c, n, q⟩ i j 0 s ≠ 0) : fnK Try.prog (kc (tabOf [e_l01Is, e_l01Add, e_l03Told])) 40 (rnd [] 40 0) 44 [.agg [I p, I r, I k, I c, .vi .u8 27 n q], I i, I j, I 0, I s] done = some (.tup [.agg [I 0, I 0, I 0, I 0, .nilsl], I (codeFlipProducts ⟨p, r, k, c, n, q⟩ i j 0 s)], [], true) := by
  refine (sspecFlip0 p r k c n q i j s 0).trans ?_
  cases hB : isB p r k c n q with
  | false => exact (bifT rfl _ _).trans (errL (by unfold codeFlipProducts; simp only [hB]; rfl))
  | true =>
    have hn := (isB_sizes hB).2.2.2.2.1
    have hp := (isB_sizes hB).1
    rw [codeFlip_eq hB] at h0 ⊢
    simp only [eqF0, decide_eq_true_eq] at h0 ⊢
    rw [bifF (show (!true) = false from rfl), W_of (n := (n : Int) - 1) (by omega) (by omega), W_of (n := p - 1) (by omega) (by omega)]
    by_cases c1 : 0 ≤ i
    rotate_left
    · exact (bifF (decide_eq_false c1) _ _).trans (errL (by (repeat' split) <;> first | rfl | omega | (exfalso; simp_all; done) | (exfalso; simp_all; omega)))
    rw [bifT (decide_eq_true c1)]
    by_cases c2 : i ≤ ((n : Int) - 1)
    rotate_left
    · exact (bifT (show (!decide (i ≤ ((n : Int) - 1))) = true by simp only [c2, decide_false, Bool.not_false]) _ _).trans (errL (by (repeat' split) <;> first | rfl | omega | (exfalso; simp_all; done) | (exfalso; simp_all; omega)))
    rw [bifF (show (!decide (i ≤ ((n : Int) - 1))) = false by simp only [c2, decide_true, Bool.not_true])]
    by_cases c3 : 0 ≤ j
    rotate_left
    · exact (bifF (decide_eq_false c3) _ _).trans (errL (by (repeat' split) <;> first | rfl | omega | (exfalso; simp_all; done) | (exfalso; simp_all; omega)))
    rw [bifT (decide_eq_true c3)]
    by_cases c4 : j ≤ ((n : Int) - 1)
    rotate_left
    · exact (bifT (show (!decide (j ≤ ((n : Int) - 1))) = true by simp only [c4, decide_false, Bool.not_false]) _ _).trans (errL (by (repeat' split) <;> first | rfl | omega | (exfalso; simp_all; done) | (exfalso; simp_all; omega)))
    rw [bifF (show (!decide (j ≤ ((n : Int) - 1))) = false by simp only [c4, decide_true, Bool.not_true])]
    by_cases c5 : 1 ≤ s
    rotate_left
    · exact (bifF (decide_eq_false c5) _ _).trans (errL (by (repeat' split) <;> first | rfl | omega | (exfalso; simp_all; done) | (exfalso; simp_all; omega)))
    rw [bifT (decide_eq_true c5)]
    by_cases c6 : s ≤ (p - 1)
    rotate_left
    · exact (bifT (show (!decide (s ≤ (p - 1))) = true by simp only [c6, decide_false, Bool.not_false]) _ _).trans (errL (by (repeat' split) <;> first | rfl | omega | (exfalso; simp_all; done) | (exfalso; simp_all; omega)))
    rw [bifF (show (!decide (s ≤ (p - 1))) = false by simp only [c6, decide_true, Bool.not_true])]
    by_cases c7 : i = j
    · exact (bifT (decide_eq_true c7) _ _).trans (errL (by (repeat' split) <;> first | rfl | omega | (exfalso; simp_all; done) | (exfalso; simp_all; omega)))
    rw [bifF (decide_eq_false c7)]
    rw [chkd (show (0 ≤ i) ∧ (i < ((n : Nat) : Int)) by omega)]
    rw [chkd (show (0 ≤ j) ∧ (j < ((n : Nat) : Int)) by omega)]
    by_cases c8 : (intsFrom (q (Int.toNat i)) 0 9) = (intsFrom (q (Int.toNat j)) 0 9)
    rotate_left
    · exact (bifT (show (!decide ((intsFrom (q (Int.toNat i)) 0 9) = (intsFrom (q (Int.toNat j)) 0 9))) = true by simp only [c8, decide_false, Bool.not_false]) _ _).trans (errL (by (repeat' split) <;> first | rfl | omega | (exfalso; simp_all; done) | (exfalso; simp_all; omega)))
    rw [bifF (show (!decide ((intsFrom (q (Int.toNat i)) 0 9) = (intsFrom (q (Int.toNat j)) 0 9))) = false by simp only [c8, decide_true, Bool.not_true])]
    exfalso
    revert h0
    (repeat' split) <;> first | rfl | omega | (exfalso; simp_all; done) | (exfalso; simp_all; omega)
theorem specFlip1_err (s : Int) (h0 : codeFlipProducts ⟨p, r, k, c, n, q⟩ i j 1 s ≠ 0) : fnK Try.prog (kc (tabOf [e_l01Is, e_l01Add, e_l03Told])) 40 (rnd [] 40 0) 44 [.agg [I p, I r, I k, I c, .vi .u8 27 n q], I i, I j, I 1, I s] done = some (.tup [.agg [I 0, I 0, I 0, I 0, .nilsl], I (codeFlipProducts ⟨p, r, k, c, n, q⟩ i j 1 s)], [], true) := by
  refine (sspecFlip1 p r k c n q i j s 0).trans ?_
  cases hB : isB p r k c n q with
  | false => exact (bifT rfl _ _).trans (errL (by unfold codeFlipProducts; simp only [hB]; rfl))
  | true =>
    have hn := (isB_sizes hB).2.2.2.2.1
    have hp := (isB_sizes hB).1
    rw [codeFlip_eq hB] at h0 ⊢
    simp only [eqF1, decide_eq_true_eq] at h0 ⊢
    rw [bifF (show (!true) = false from rfl), W_of (n := (n : Int) - 1) (by omega) (by omega), W_of (n := p - 1) (by omega) (by omega)]
    by_cases c1 : 0 ≤ i
    rotate_left
    · exact (bifF (decide_eq_false c1) _ _).trans (errL (by (repeat' split) <;> first | rfl | omega | (exfalso; simp_all; done) | (exfalso; simp_all; omega)))
    rw [bifT (decide_eq_true c1)]
    by_cases c2 : i ≤ ((n : Int) - 1)
    rotate_left
    · exact (bifT (show (!decide (i ≤ ((n : Int) - 1))) = true by simp only [c2, decide_false, Bool.not_false]) _ _).trans (errL (by (repeat' split) <;> first | rfl | omega | (exfalso; simp_all; done) | (exfalso; simp_all; omega)))
    rw [bifF (show (!decide (i ≤ ((n : Int) - 1))) = false by simp only [c2, decide_true, Bool.not_true])]
    by_cases c3 : 0 ≤ j
    rotate_left
    · exact (bifF (decide_eq_false c3) _ _).trans (errL (by (repeat' split) <;> first | rfl | omega | (exfalso; simp_all; done) | (exfalso; simp_all; omega)))
    rw [bifT (decide_eq_true c3)]
    by_cases c4 : j ≤ ((n : Int) - 1)
    rotate_left
    · exact (bifT (show (!decide (j ≤ ((n : Int) - 1))) = true by simp only [c4, decide_false, Bool.not_false]) _ _).trans (errL (by (repeat' split) <;> first | rfl | omega | (exfalso; simp_all; done) | (exfalso; simp_all; omega)))
    rw [bifF (show (!decide (j ≤ ((n : Int) - 1))) = false by simp only [c4, decide_true, Bool.not_true])]
    by_cases c5 : 1 ≤ s
    rotate_left
    · exact (bifF (decide_eq_false c5) _ _).trans (errL (by (repeat' split) <;> first | rfl | omega | (exfalso; simp_all; done) | (exfalso; simp_all; omega)))
    rw [bifT (decide_eq_true c5)]
    by_cases c6 : s ≤ (p - 1)
    rotate_left
    · exact (bifT (show (!decide (s ≤ (p - 1))) = true by simp only [c6, decide_false, Bool.not_false]) _ _).trans (errL (by (repeat' split) <;> first | rfl | omega | (exfalso; simp_all; done) | (exfalso; simp_all; omega)))
    rw [bifF (show (!decide (s ≤ (p - 1))) = false by simp only [c6, decide_true, Bool.not_true])]
    by_cases c7 : i = j
    · exact (bifT (decide_eq_true c7) _ _).trans (errL (by (repeat' split) <;> first | rfl | omega | (exfalso; simp_all; done) | (exfalso; simp_all; omega)))
    rw [bifF (decide_eq_false c7)]
    rw [chkd (show (0 ≤ i) ∧ (i < ((n : Nat) : Int)) by omega)]
    rw [chkd (show (0 ≤ j) ∧ (j < ((n : Nat) : Int)) by omega)]
    by_cases c8 : (intsFrom (q (Int.toNat i)) 9 9) = (intsFrom (q (Int.toNat j)) 9 9)
    rotate_left
    · exact (bifT (show (!decide ((intsFrom (q (Int.toNat i)) 9 9) = (intsFrom (q (Int.toNat j)) 9 9))) = true by simp only [c8, decide_false, Bool.not_false]) _ _).trans (errL (by (repeat' split) <;> first | rfl | omega | (exfalso; simp_all; done) | (exfalso; simp_all; omega)))
    rw [bifF (show (!decide ((intsFrom (q (Int.toNat i)) 9 9) = (intsFrom (q (Int.toNat j)) 9 9))) = false by simp only [c8, decide_true, Bool.not_true])]
    exfalso
    revert h0
    (repeat' split) <;> first | rfl | omega | (exfalso; simp_all; done) | (exfalso; simp_all; omega)
theorem specFlip2_err (s : Int) (h0 : codeFlipProducts ⟨p, r, k, c, n, q⟩ i j 2 s ≠ 0) : fnK Try.prog (kc (tabOf [e_l01Is, e_l01Add, e_l03Told])) 40 (rnd [] 40 0) 44 [.agg [I p, I r, I k, I c, .vi .u8 27 n q], I i, I j, I 2, I s] done = some (.tup [.agg [I 0, I 0, I 0, I 0, .nilsl], I (codeFlipProducts ⟨p, r, k, c, n, q⟩ i j 2 s)], [], true) := by
  refine (sspecFlip2 p r k c n q i j s 0).trans ?_
  cases hB : isB p r k c n q with
  | false => exact (bifT rfl _ _).trans (errL (by unfold codeFlipProducts; simp only [hB]; rfl))
  | true =>
    have hn := (isB_sizes hB).2.2.2.2.1
    have hp := (isB_sizes hB).1
    rw [codeFlip_eq hB] at h0 ⊢
    simp only [eqF2, decide_eq_true_eq] at h0 ⊢
    rw [bifF (show (!true) = false from rfl), W_of (n := (n : Int) - 1) (by omega) (by omega), W_of (n := p - 1) (by omega) (by omega)]
    by_cases c1 : 0 ≤ i
    rotate_left
    · exact (bifF (decide_eq_false c1) _ _).trans (errL (by (repeat' split) <;> first | rfl | omega | (exfalso; simp_all; done) | (exfalso; simp_all; omega)))
    rw [bifT (decide_eq_true c1)]
    by_cases c2 : i ≤ ((n : Int) - 1)
    rotate_left
    · exact (bifT (show (!decide (i ≤ ((n : Int) - 1))) = true by simp only [c2, decide_false, Bool.not_false]) _ _).trans (errL (by (repeat' split) <;> first | rfl | omega | (exfalso; simp_all; done) | (exfalso; simp_all; omega)))
    rw [bifF (show (!decide (i ≤ ((n : Int) - 1))) = false by simp only [c2, decide_true, Bool.not_true])]
    by_cases c3 : 0 ≤ j
    rotate_left
    · exact (bifF (decide_eq_false c3) _ _).trans (errL (by (repeat' split) <;> first | rfl | omega | (exfalso; simp_all; done) | (exfalso; simp_all; omega)))
    rw [bifT (decide_eq_true c3)]
    by_cases c4 : j ≤ ((n : Int) - 1)
    rotate_left
    · exact (bifT (show (!decide (j ≤ ((n : Int) - 1))) = true by simp only [c4, decide_false, Bool.not_false]) _ _).trans (errL (by (repeat' split) <;> first | rfl | omega | (exfalso; simp_all; done) | (exfalso; simp_all; omega)))
    rw [bifF (show (!decide (j ≤ ((n : Int) - 1))) = false by simp only [c4, decide_true, Bool.not_true])]
    by_cases c5 : 1 ≤ s
    rotate_left
    · exact (bifF (decide_eq_false c5) _ _).trans (errL (by (repeat' split) <;> first | rfl | omega | (exfalso; simp_all; done) | (exfalso; simp_all; omega)))
    rw [bifT (decide_eq_true c5)]
    by_cases c6 : s ≤ (p - 1)
    rotate_left
    · exact (bifT (show (!decide (s ≤ (p - 1))) = true by simp only [c6, decide_false, Bool.not_false]) _ _).trans (errL (by (repeat' split) <;> first | rfl | omega | (exfalso; simp_all; done) | (exfalso; simp_all; omega)))
    rw [bifF (show (!decide (s ≤ (p - 1))) = false by simp only [c6, decide_true, Bool.not_true])]
    by_cases c7 : i = j
    · exact (bifT (decide_eq_true c7) _ _).trans (errL (by (repeat' split) <;> first | rfl | omega | (exfalso; simp_all; done) | (exfalso; simp_all; omega)))
    rw [bifF (decide_eq_false c7)]
    rw [chkd (show (0 ≤ i) ∧ (i < ((n : Nat) : Int)) by omega)]
    rw [chkd (show (0 ≤ j) ∧ (j < ((n : Nat) : Int)) by omega)]
    by_cases c8 : (intsFrom (q (Int.toNat i)) 18 9) = (intsFrom (q (Int.toNat j)) 18 9)
    rotate_left
    · exact (bifT (show (!decide ((intsFrom (q (Int.toNat i)) 18 9) = (intsFrom (q (Int.toNat j)) 18 9))) = true by simp only [c8, decide_false, Bool.not_false]) _ _).trans (errL (by (repeat' split) <;> first | rfl | omega | (exfalso; simp_all; done) | (exfalso; simp_all; omega)))
    rw [bifF (show (!decide ((intsFrom (q (Int.toNat i)) 18 9) = (intsFrom (q (Int.toNat j)) 18 9))) = false by simp only [c8, decide_true, Bool.not_true])]
    exfalso
    revert h0
    (repeat' split) <;> first | rfl | omega | (exfalso; simp_all; done) | (exfalso; simp_all; omega)
theorem specFlipE_err (f s : Int) (hf : ¬ (0 ≤ f ∧ f ≤ 2)) (h0 : codeFlipProducts ⟨p, r, k, c, n, q⟩ i j f s ≠ 0) : fnK Try.prog (kc (tabOf [e_l01Is, e_noFactor])) 40 (rnd [] 40 0) 44 [.agg [I p, I r, I k, I c, .vi .u8 27 n q], I i, I j, I f, I s] done = some (.tup [.agg [I 0, I 0, I 0, I 0, .nilsl], I (codeFlipProducts ⟨p, r, k, c, n, q⟩ i j f s)], [], true) := by
  refine (sspecFlipE p r k c n q i j f s 0).trans ?_
  cases hB : isB p r k c n q with
  | false => exact (bifT rfl _ _).trans (errL (by unfold codeFlipProducts; simp only [hB]; rfl))
  | true =>
    have hn := (isB_sizes hB).2.2.2.2.1
    have hp := (isB_sizes hB).1
    rw [codeFlip_eq hB] at h0 ⊢
    rw [bifF (show (!true) = false from rfl), W_of (n := (n : Int) - 1) (by omega) (by omega), W_of (n := p - 1) (by omega) (by omega)]
    by_cases c1 : 0 ≤ i
    rotate_left
    · exact (bifF (decide_eq_false c1) _ _).trans (errL (by (repeat' split) <;> first | rfl | omega | (exfalso; simp_all; done) | (exfalso; simp_all; omega)))
    rw [bifT (decide_eq_true c1)]
    by_cases c2 : i ≤ ((n : Int) - 1)
    rotate_left
    · exact (bifT (show (!decide (i ≤ ((n : Int) - 1))) = true by simp only [c2, decide_false, Bool.not_false]) _ _).trans (errL (by (repeat' split) <;> first | rfl | omega | (exfalso; simp_all; done) | (exfalso; simp_all; omega)))
    rw [bifF (show (!decide (i ≤ ((n : Int) - 1))) = false by simp only [c2, decide_true, Bool.not_true])]
    by_cases c3 : 0 ≤ j
    rotate_left
    · exact (bifF (decide_eq_false c3) _ _).trans (errL (by (repeat' split) <;> first | rfl | omega | (exfalso; simp_all; done) | (exfalso; simp_all; omega)))
    rw [bifT (decide_eq_true c3)]
    by_cases c4 : j ≤ ((n : Int) - 1)
    rotate_left
    · exact (bifT (show (!decide (j ≤ ((n : Int) - 1))) = true by simp only [c4, decide_false, Bool.not_false]) _ _).trans (errL (by (repeat' split) <;> first | rfl | omega | (exfalso; simp_all; done) | (exfalso; simp_all; omega)))
    rw [bifF (show (!decide (j ≤ ((n : Int) - 1))) = false by simp only [c4, decide_true, Bool.not_true])]
    by_cases c5 : 0 ≤ f
    rotate_left
    · exact (bifF (decide_eq_false c5) _ _).trans (errL (by (repeat' split) <;> first | rfl | omega | (exfalso; simp_all; done) | (exfalso; simp_all; omega)))
    rw [bifT (decide_eq_true c5)]
    by_cases c6 : f ≤ 2
    rotate_left
    · exact (bifT (show (!decide (f ≤ 2)) = true by simp only [c6, decide_false, Bool.not_false]) _ _).trans (errL (by (repeat' split) <;> first | rfl | omega | (exfalso; simp_all; done) | (exfalso; simp_all; omega)))
    rw [bifF (show (!decide (f ≤ 2)) = false by simp only [c6, decide_true, Bool.not_true])]
    by_cases c7 : 1 ≤ s
    rotate_left
    · exact (bifF (decide_eq_false c7) _ _).trans (errL (by (repeat' split) <;> first | rfl | omega | (exfalso; simp_all; done) | (exfalso; simp_all; omega)))
    rw [bifT (decide_eq_true c7)]
    by_cases c8 : s ≤ (p - 1)
    rotate_left
    · exact (bifT (show (!decide (s ≤ (p - 1))) = true by simp only [c8, decide_false, Bool.not_false]) _ _).trans (errL (by (repeat' split) <;> first | rfl | omega | (exfalso; simp_all; done) | (exfalso; simp_all; omega)))
    rw [bifF (show (!decide (s ≤ (p - 1))) = false by simp only [c8, decide_true, Bool.not_true])]
    by_cases c9 : i = j
    · exact (bifT (decide_eq_true c9) _ _).trans (errL (by (repeat' split) <;> first | rfl | omega | (exfalso; simp_all; done) | (exfalso; simp_all; omega)))
    rw [bifF (decide_eq_false c9)]
    exfalso
    revert h0
    (repeat' split) <;> first | rfl | omega | (exfalso; simp_all; done) | (exfalso; simp_all; omega)
theorem implFlip0_err (s : Int) (h0 : codeFlipProducts ⟨p, r, k, c, n, q⟩ i j 0 s ≠ 0) : fnK Try.prog (kc (tabOf [e_IsScheme, e_sum]) (mtabOf [m_kept])) 40 (rnd [] 40 0) 45 [.agg [I p, I r, I k, I c, .vi .u8 27 n q], I i, I j, I 0, I s] done = some (.tup [.agg [I 0, I 0, I 0, I 0, .nilsl], I (codeFlipProducts ⟨p, r, k, c, n, q⟩ i j 0 s)], [], true) := by
  refine (simplFlip0 p r k c n q i j s 0).trans ?_
  cases hB : isB p r k c n q with
  | false => exact (bifT rfl _ _).trans (errL (by unfold codeFlipProducts; simp only [hB]; rfl))
  | true =>
    have hn := (isB_sizes hB).2.2.2.2.1
    have hp := (isB_sizes hB).1
    rw [codeFlip_eq hB] at h0 ⊢
    simp only [eqF0, decide_eq_true_eq] at h0 ⊢
    rw [bifF (show (!true) = false from rfl)]
    by_cases c1 : i < 0
    · exact (bifT (decide_eq_true c1) _ _).trans (errL (by (repeat' split) <;> first | rfl | omega | (exfalso; simp_all; done) | (exfalso; simp_all; omega)))
    rw [bifF (decide_eq_false c1)]
    by_cases c2 : ((n : Nat) : Int) ≤ i
    · exact (bifT (decide_eq_true c2) _ _).trans (errL (by (repeat' split) <;> first | rfl | omega | (exfalso; simp_all; done) | (exfalso; simp_all; omega)))
    rw [bifF (decide_eq_false c2)]
    by_cases c3 : j < 0
    · exact (bifT (decide_eq_true c3) _ _).trans (errL (by (repeat' split) <;> first | rfl | omega | (exfalso; simp_all; done) | (exfalso; simp_all; omega)))
    rw [bifF (decide_eq_false c3)]
    by_cases c4 : ((n : Nat) : Int) ≤ j
    · exact (bifT (decide_eq_true c4) _ _).trans (errL (by (repeat' split) <;> first | rfl | omega | (exfalso; simp_all; done) | (exfalso; simp_all; omega)))
    rw [bifF (decide_eq_false c4)]
    by_cases c5 : s < 1
    · exact (bifT (decide_eq_true c5) _ _).trans (errL (by (repeat' split) <;> first | rfl | omega | (exfalso; simp_all; done) | (exfalso; simp_all; omega)))
    rw [bifF (decide_eq_false c5)]
    by_cases c6 : p ≤ s
    · exact (bifT (decide_eq_true c6) _ _).trans (errL (by (repeat' split) <;> first | rfl | omega | (exfalso; simp_all; done) | (exfalso; simp_all; omega)))
    rw [bifF (decide_eq_false c6)]
    by_cases c7 : i = j
    · exact (bifT (decide_eq_true c7) _ _).trans (errL (by (repeat' split) <;> first | rfl | omega | (exfalso; simp_all; done) | (exfalso; simp_all; omega)))
    rw [bifF (decide_eq_false c7)]
    rw [chkd (show (0 ≤ i) ∧ (i < ((n : Nat) : Int)) by omega)]
    rw [chkd (show (0 ≤ j) ∧ (j < ((n : Nat) : Int)) by omega)]
    by_cases c8 : (intsFrom (q (Int.toNat i)) 0 9) = (intsFrom (q (Int.toNat j)) 0 9)
    rotate_left
    · exact (bifT (show (!decide ((intsFrom (q (Int.toNat i)) 0 9) = (intsFrom (q (Int.toNat j)) 0 9))) = true by simp only [c8, decide_false, Bool.not_false]) _ _).trans (errL (by (repeat' split) <;> first | rfl | omega | (exfalso; simp_all; done) | (exfalso; simp_all; omega)))
    rw [bifF (show (!decide ((intsFrom (q (Int.toNat i)) 0 9) = (intsFrom (q (Int.toNat j)) 0 9))) = false by simp only [c8, decide_true, Bool.not_true])]
    exfalso
    revert h0
    (repeat' split) <;> first | rfl | omega | (exfalso; simp_all; done) | (exfalso; simp_all; omega)
theorem implFlip1_err (s : Int) (h0 : codeFlipProducts ⟨p, r, k, c, n, q⟩ i j 1 s ≠ 0) : fnK Try.prog (kc (tabOf [e_IsScheme, e_sum]) (mtabOf [m_kept])) 40 (rnd [] 40 0) 45 [.agg [I p, I r, I k, I c, .vi .u8 27 n q], I i, I j, I 1, I s] done = some (.tup [.agg [I 0, I 0, I 0, I 0, .nilsl], I (codeFlipProducts ⟨p, r, k, c, n, q⟩ i j 1 s)], [], true) := by
  refine (simplFlip1 p r k c n q i j s 0).trans ?_
  cases hB : isB p r k c n q with
  | false => exact (bifT rfl _ _).trans (errL (by unfold codeFlipProducts; simp only [hB]; rfl))
  | true =>
    have hn := (isB_sizes hB).2.2.2.2.1
    have hp := (isB_sizes hB).1
    rw [codeFlip_eq hB] at h0 ⊢
    simp only [eqF1, decide_eq_true_eq] at h0 ⊢
    rw [bifF (show (!true) = false from rfl)]
    by_cases c1 : i < 0
    · exact (bifT (decide_eq_true c1) _ _).trans (errL (by (repeat' split) <;> first | rfl | omega | (exfalso; simp_all; done) | (exfalso; simp_all; omega)))
    rw [bifF (decide_eq_false c1)]
    by_cases c2 : ((n : Nat) : Int) ≤ i
    · exact (bifT (decide_eq_true c2) _ _).trans (errL (by (repeat' split) <;> first | rfl | omega | (exfalso; simp_all; done) | (exfalso; simp_all; omega)))
    rw [bifF (decide_eq_false c2)]
    by_cases c3 : j < 0
    · exact (bifT (decide_eq_true c3) _ _).trans (errL (by (repeat' split) <;> first | rfl | omega | (exfalso; simp_all; done) | (exfalso; simp_all; omega)))
    rw [bifF (decide_eq_false c3)]
    by_cases c4 : ((n : Nat) : Int) ≤ j
    · exact (bifT (decide_eq_true c4) _ _).trans (errL (by (repeat' split) <;> first | rfl | omega | (exfalso; simp_all; done) | (exfalso; simp_all; omega)))
    rw [bifF (decide_eq_false c4)]
    by_cases c5 : s < 1
    · exact (bifT (decide_eq_true c5) _ _).trans (errL (by (repeat' split) <;> first | rfl | omega | (exfalso; simp_all; done) | (exfalso; simp_all; omega)))
    rw [bifF (decide_eq_false c5)]
    by_cases c6 : p ≤ s
    · exact (bifT (decide_eq_true c6) _ _).trans (errL (by (repeat' split) <;> first | rfl | omega | (exfalso; simp_all; done) | (exfalso; simp_all; omega)))
    rw [bifF (decide_eq_false c6)]
    by_cases c7 : i = j
    · exact (bifT (decide_eq_true c7) _ _).trans (errL (by (repeat' split) <;> first | rfl | omega | (exfalso; simp_all; done) | (exfalso; simp_all; omega)))
    rw [bifF (decide_eq_false c7)]
    rw [chkd (show (0 ≤ i) ∧ (i < ((n : Nat) : Int)) by omega)]
    rw [chkd (show (0 ≤ j) ∧ (j < ((n : Nat) : Int)) by omega)]
    by_cases c8 : (intsFrom (q (Int.toNat i)) 9 9) = (intsFrom (q (Int.toNat j)) 9 9)
    rotate_left
    · exact (bifT (show (!decide ((intsFrom (q (Int.toNat i)) 9 9) = (intsFrom (q (Int.toNat j)) 9 9))) = true by simp only [c8, decide_false, Bool.not_false]) _ _).trans (errL (by (repeat' split) <;> first | rfl | omega | (exfalso; simp_all; done) | (exfalso; simp_all; omega)))
    rw [bifF (show (!decide ((intsFrom (q (Int.toNat i)) 9 9) = (intsFrom (q (Int.toNat j)) 9 9))) = false by simp only [c8, decide_true, Bool.not_true])]
    exfalso
    revert h0
    (repeat' split) <;> first | rfl | omega | (exfalso; simp_all; done) | (exfalso; simp_all; omega)
theorem implFlip2_err (s : Int) (h0 : codeFlipProducts ⟨p, r, k, c, n, q⟩ i j 2 s ≠ 0) : fnK Try.prog (kc (tabOf [e_IsScheme, e_sum]) (mtabOf [m_kept])) 40 (rnd [] 40 0) 45 [.agg [I p, I r, I k, I c, .vi .u8 27 n q], I i, I j, I 2, I s] done = some (.tup [.agg [I 0, I 0, I 0, I 0, .nilsl], I (codeFlipProducts ⟨p, r, k, c, n, q⟩ i j 2 s)], [], true) := by
  refine (simplFlip2 p r k c n q i j s 0).trans ?_
  cases hB : isB p r k c n q with
  | false => exact (bifT rfl _ _).trans (errL (by unfold codeFlipProducts; simp only [hB]; rfl))
  | true =>
    have hn := (isB_sizes hB).2.2.2.2.1
    have hp := (isB_sizes hB).1
    rw [codeFlip_eq hB] at h0 ⊢
    simp only [eqF2, decide_eq_true_eq] at h0 ⊢
    rw [bifF (show (!true) = false from rfl)]
    by_cases c1 : i < 0
    · exact (bifT (decide_eq_true c1) _ _).trans (errL (by (repeat' split) <;> first | rfl | omega | (exfalso; simp_all; done) | (exfalso; simp_all; omega)))
    rw [bifF (decide_eq_false c1)]
    by_cases c2 : ((n : Nat) : Int) ≤ i
    · exact (bifT (decide_eq_true c2) _ _).trans (errL (by (repeat' split) <;> first | rfl | omega | (exfalso; simp_all; done) | (exfalso; simp_all; omega)))
    rw [bifF (decide_eq_false c2)]
    by_cases c3 : j < 0
    · exact (bifT (decide_eq_true c3) _ _).trans (errL (by (repeat' split) <;> first | rfl | omega | (exfalso; simp_all; done) | (exfalso; simp_all; omega)))
    rw [bifF (decide_eq_false c3)]
    by_cases c4 : ((n : Nat) : Int) ≤ j
    · exact (bifT (decide_eq_true c4) _ _).trans (errL (by (repeat' split) <;> first | rfl | omega | (exfalso; simp_all; done) | (exfalso; simp_all; omega)))
    rw [bifF (decide_eq_false c4)]
    by_cases c5 : s < 1
    · exact (bifT (decide_eq_true c5) _ _).trans (errL (by (repeat' split) <;> first | rfl | omega | (exfalso; simp_all; done) | (exfalso; simp_all; omega)))
    rw [bifF (decide_eq_false c5)]
    by_cases c6 : p ≤ s
    · exact (bifT (decide_eq_true c6) _ _).trans (errL (by (repeat' split) <;> first | rfl | omega | (exfalso; simp_all; done) | (exfalso; simp_all; omega)))
    rw [bifF (decide_eq_false c6)]
    by_cases c7 : i = j
    · exact (bifT (decide_eq_true c7) _ _).trans (errL (by (repeat' split) <;> first | rfl | omega | (exfalso; simp_all; done) | (exfalso; simp_all; omega)))
    rw [bifF (decide_eq_false c7)]
    rw [chkd (show (0 ≤ i) ∧ (i < ((n : Nat) : Int)) by omega)]
    rw [chkd (show (0 ≤ j) ∧ (j < ((n : Nat) : Int)) by omega)]
    by_cases c8 : (intsFrom (q (Int.toNat i)) 18 9) = (intsFrom (q (Int.toNat j)) 18 9)
    rotate_left
    · exact (bifT (show (!decide ((intsFrom (q (Int.toNat i)) 18 9) = (intsFrom (q (Int.toNat j)) 18 9))) = true by simp only [c8, decide_false, Bool.not_false]) _ _).trans (errL (by (repeat' split) <;> first | rfl | omega | (exfalso; simp_all; done) | (exfalso; simp_all; omega)))
    rw [bifF (show (!decide ((intsFrom (q (Int.toNat i)) 18 9) = (intsFrom (q (Int.toNat j)) 18 9))) = false by simp only [c8, decide_true, Bool.not_true])]
    exfalso
    revert h0
    (repeat' split) <;> first | rfl | omega | (exfalso; simp_all; done) | (exfalso; simp_all; omega)
theorem implFlipE_err (f s : Int) (hf : ¬ (0 ≤ f ∧ f ≤ 2)) (h0 : codeFlipProducts ⟨p, r, k, c, n, q⟩ i j f s ≠ 0) : fnK Try.prog (kc (tabOf [e_IsScheme, e_noFactors])) 40 (rnd [] 40 0) 45 [.agg [I p, I r, I k, I c, .vi .u8 27 n q], I i, I j, I f, I s] done = some (.tup [.agg [I 0, I 0, I 0, I 0, .nilsl], I (codeFlipProducts ⟨p, r, k, c, n, q⟩ i j f s)], [], true) := by
  refine (simplFlipE p r k c n q i j f s 0).trans ?_
  cases hB : isB p r k c n q with
  | false => exact (bifT rfl _ _).trans (errL (by unfold codeFlipProducts; simp only [hB]; rfl))
  | true =>
    have hn := (isB_sizes hB).2.2.2.2.1
    have hp := (isB_sizes hB).1
    rw [codeFlip_eq hB] at h0 ⊢
    rw [bifF (show (!true) = false from rfl)]
    by_cases c1 : i < 0
    · exact (bifT (decide_eq_true c1) _ _).trans (errL (by (repeat' split) <;> first | rfl | omega | (exfalso; simp_all; done) | (exfalso; simp_all; omega)))
    rw [bifF (decide_eq_false c1)]
    by_cases c2 : ((n : Nat) : Int) ≤ i
    · exact (bifT (decide_eq_true c2) _ _).trans (errL (by (repeat' split) <;> first | rfl | omega | (exfalso; simp_all; done) | (exfalso; simp_all; omega)))
    rw [bifF (decide_eq_false c2)]
    by_cases c3 : j < 0
    · exact (bifT (decide_eq_true c3) _ _).trans (errL (by (repeat' split) <;> first | rfl | omega | (exfalso; simp_all; done) | (exfalso; simp_all; omega)))
    rw [bifF (decide_eq_false c3)]
    by_cases c4 : ((n : Nat) : Int) ≤ j
    · exact (bifT (decide_eq_true c4) _ _).trans (errL (by (repeat' split) <;> first | rfl | omega | (exfalso; simp_all; done) | (exfalso; simp_all; omega)))
    rw [bifF (decide_eq_false c4)]
    by_cases c5 : f < 0
    · exact (bifT (decide_eq_true c5) _ _).trans (errL (by (repeat' split) <;> first | rfl | omega | (exfalso; simp_all; done) | (exfalso; simp_all; omega)))
    rw [bifF (decide_eq_false c5)]
    by_cases c6 : 2 < f
    · exact (bifT (decide_eq_true c6) _ _).trans (errL (by (repeat' split) <;> first | rfl | omega | (exfalso; simp_all; done) | (exfalso; simp_all; omega)))
    rw [bifF (decide_eq_false c6)]
    by_cases c7 : s < 1
    · exact (bifT (decide_eq_true c7) _ _).trans (errL (by (repeat' split) <;> first | rfl | omega | (exfalso; simp_all; done) | (exfalso; simp_all; omega)))
    rw [bifF (decide_eq_false c7)]
    by_cases c8 : p ≤ s
    · exact (bifT (decide_eq_true c8) _ _).trans (errL (by (repeat' split) <;> first | rfl | omega | (exfalso; simp_all; done) | (exfalso; simp_all; omega)))
    rw [bifF (decide_eq_false c8)]
    by_cases c9 : i = j
    · exact (bifT (decide_eq_true c9) _ _).trans (errL (by (repeat' split) <;> first | rfl | omega | (exfalso; simp_all; done) | (exfalso; simp_all; omega)))
    rw [bifF (decide_eq_false c9)]
    exfalso
    revert h0
    (repeat' split) <;> first | rfl | omega | (exfalso; simp_all; done) | (exfalso; simp_all; omega)
theorem flip_cells0 (p s s' : Int) (n i j : Nat) (q : Nat → Nat → Int) (hs : ∀ f g, sumQ p s' f g = sumQ p (-s) f g) (a c : Nat) (ha : a < n) (hc : c < 27) : flipQ p i j 0 s q a c = canonI n 27 (fun a c1 => bif a == j then prodQ (q j) (pB (q j)) (sumQ p s' (pC (q j)) (pC (q i))) c1 else bif a == i then prodQ (q i) (sumQ p s (pB (q i)) (pB (q j))) (pC (q i)) c1 else q a c1) a c := by
  simp only [canonI, ha, hc, decide_true, Bool.and_self, cond_true, hs]
  unfold flipQ
  by_cases h2 : a = j
  · subst h2
    simp only [decide_true, beq_self_eq_true, cond_true]
    exact prodQ_congr (fun _ hj => by first | rfl | exact pA_get _ hj) (fun _ _ => rfl) (fun _ _ => rfl) hc
  · have h2' : (a == j) = false := by simp [h2]
    simp only [h2, h2', decide_false, cond_false]
    by_cases h3 : a = i
    · subst h3
      simp only [decide_true, beq_self_eq_true, cond_true]
      exact prodQ_congr (fun _ hj => by first | rfl | exact pA_get _ hj) (fun _ _ => rfl) (fun _ _ => rfl) hc
    · have h3' : (a == i) = false := by simp [h3]
      simp only [h3, h3', decide_false, cond_false]
theorem flip_cells1 (p s s' : Int) (n i j : Nat) (q : Nat → Nat → Int) (hs : ∀ f g, sumQ p s' f g = sumQ p (-s) f g) (a c : Nat) (ha : a < n) (hc : c < 27) : flipQ p i j 1 s q a c = canonI n 27 (fun a c1 => bif a == j then prodQ (sumQ p s' (pA (q j)) (pA (q i))) (pB (q j)) (pC (q j)) c1 else bif a == i then prodQ (q i) (pB (q i)) (sumQ p s (pC (q i)) (pC (q j))) c1 else q a c1) a c := by
  simp only [canonI, ha, hc, decide_true, Bool.and_self, cond_true, hs]
  unfold flipQ
  by_cases h2 : a = j
  · subst h2
    simp only [decide_true, beq_self_eq_true, cond_true]
    exact prodQ_congr (fun _ hj => by first | rfl | exact pA_get _ hj) (fun _ _ => rfl) (fun _ _ => rfl) hc
  · have h2' : (a == j) = false := by simp [h2]
    simp only [h2, h2', decide_false, cond_false]
    by_cases h3 : a = i
    · subst h3
      simp only [decide_true, beq_self_eq_true, cond_true]
      exact prodQ_congr (fun _ hj => by first | rfl | exact pA_get _ hj) (fun _ _ => rfl) (fun _ _ => rfl) hc
    · have h3' : (a == i) = false := by simp [h3]
      simp only [h3, h3', decide_false, cond_false]
theorem flip_cells2 (p s s' : Int) (n i j : Nat) (q : Nat → Nat → Int) (hs : ∀ f g, sumQ p s' f g = sumQ p (-s) f g) (a c : Nat) (ha : a < n) (hc : c < 27) : flipQ p i j 2 s q a c = canonI n 27 (fun a c1 => bif a == j then prodQ (q j) (sumQ p s' (pB (q j)) (pB (q i))) (pC (q j)) c1 else bif a == i then prodQ (sumQ p s (pA (q i)) (pA (q j))) (pB (q i)) (pC (q i)) c1 else q a c1) a c := by
  simp only [canonI, ha, hc, decide_true, Bool.and_self, cond_true, hs]
  unfold flipQ
  by_cases h2 : a = j
  · subst h2
    simp only [decide_true, beq_self_eq_true, cond_true]
    exact prodQ_congr (fun _ hj => by first | rfl | exact pA_get _ hj) (fun _ _ => rfl) (fun _ _ => rfl) hc
  · have h2' : (a == j) = false := by simp [h2]
    simp only [h2, h2', decide_false, cond_false]
    by_cases h3 : a = i
    · subst h3
      simp only [decide_true, beq_self_eq_true, cond_true]
      exact prodQ_congr (fun _ hj => by first | rfl | exact pA_get _ hj) (fun _ _ => rfl) (fun _ _ => rfl) hc
    · have h3' : (a == i) = false := by simp [h3]
      simp only [h3, h3', decide_false, cond_false]
theorem specFlip0_ok (s : Int) (h0 : codeFlipProducts ⟨p, r, k, c, n, q⟩ i j 0 s = 0) (hr : rngB n q = true) : Gives (.tup [.agg [I p, I r, I k, I c, .sl 0 0 (nzL n (flipQ p i.toNat j.toNat 0 s q)).length (nzL n (flipQ p i.toNat j.toNat 0 s q)).length], I 0]) (nzL n (flipQ p i.toNat j.toNat 0 s q)).length (keptQ n (flipQ p i.toNat j.toNat 0 s q)) (fnK Try.prog (kc (tabOf [e_l01Is, e_l01Add, e_l03Told])) 40 (rnd [] 40 0) 44 [.agg [I p, I r, I k, I c, .vi .u8 27 n q], I i, I j, I 0, I s] done) := by
  obtain ⟨hB, hi, hj, hij, _, hs, heq⟩ := codeFlip0 h0
  obtain ⟨hp', _, _, _, hn, _⟩ := isB_sizes hB
  obtain ⟨i', rfl⟩ : ∃ i' : Nat, i = i' := ⟨i.toNat, by omega⟩
  obtain ⟨j', rfl⟩ : ∃ j' : Nat, j = j' := ⟨j.toNat, by omega⟩
  have hi' : i' < n := by omega
  have hj' : j' < n := by omega
  obtain ⟨hp, a1, b1, c1, _⟩ := mod9_of hB hr hi'
  obtain ⟨_, a2, b2, c2, _⟩ := mod9_of hB hr hj'
  rw [eqF0, decide_eq_true_eq, toN, toN] at heq
  rw [sspecFlip0 p r k c n q i' j' s 0, W_of (n := (n : Int) - 1) (by omega) (by omega), W_of (n := p - 1) (by omega) (by omega), W_of (n := 0 - s) (by omega) (by omega), bifF (show (!isB p r k c n q) = false by rw [hB]; rfl), toN, toN, bifT (show (decide (0 ≤ (i' : Int))) = true from decide_eq_true (by omega)), bifF (show (!decide ((i' : Int) ≤ ((n : Int) - 1))) = false by rw [decide_eq_true (show ((i' : Int) ≤ ((n : Int) - 1)) from by omega)]; rfl), bifT (show (decide (0 ≤ (j' : Int))) = true from decide_eq_true (by omega)), bifF (show (!decide ((j' : Int) ≤ ((n : Int) - 1))) = false by rw [decide_eq_true (show ((j' : Int) ≤ ((n : Int) - 1)) from by omega)]; rfl), bifT (show (decide (1 ≤ s)) = true from decide_eq_true (by omega)), bifF (show (!decide (s ≤ (p - 1))) = false by rw [decide_eq_true (show (s ≤ (p - 1)) from by omega)]; rfl), bifF (show (decide ((i' : Int) = (j' : Int))) = false from decide_eq_false (by omega)), chkd (show (0 ≤ (i' : Int)) ∧ ((i' : Int) < ((n : Nat) : Int)) by omega), chkd (show (0 ≤ (j' : Int)) ∧ ((j' : Int) < ((n : Nat) : Int)) by omega), bifF (show (!decide ((intsFrom (q (i')) 0 9) = (intsFrom (q (j')) 0 9))) = false by rw [decide_eq_true (show ((intsFrom (q (i')) 0 9) = (intsFrom (q (j')) 0 9)) from heq)]; rfl)]
  have f1 : n ≤ 4294967296 := by omega
  have f3 : n ≤ 60 := by omega
  have f4 : n ≤ 1048576 := by omega
  have f5 : 0 ≤ p - s ∧ p - s ≤ 100 := by omega
  have f6 : 0 ≤ s ∧ s ≤ 100 := by omega
  have f7 : -100 ≤ s ∧ s ≤ 100 := by omega
  have f8 : -100 ≤ 0 - s ∧ 0 - s ≤ 100 := by omega
  have f9 : ¬ (n = 0 ∧ ¬ q 0 0 = 0) := by omega
  simp only [chknd f9, toN, Nat.zero_add, Nat.sub_zero, Nat.le_refl, f1, f3, f4, f5, f6, f7, f8, hi.1, hi.2, hj.1, hj.2, hi', hj', hp, a1, b1, c1, a2, b2, c2, beq_self_eq_true, and_self, decide_true, Bool.and_self, chk_true]
  exact kept_gives (flip_cells0 p s (0 - s) n i' j' q (fun f g => by rw [Int.zero_sub]))
theorem specFlip1_ok (s : Int) (h0 : codeFlipProducts ⟨p, r, k, c, n, q⟩ i j 1 s = 0) (hr : rngB n q = true) : Gives (.tup [.agg [I p, I r, I k, I c, .sl 0 0 (nzL n (flipQ p i.toNat j.toNat 1 s q)).length (nzL n (flipQ p i.toNat j.toNat 1 s q)).length], I 0]) (nzL n (flipQ p i.toNat j.toNat 1 s q)).length (keptQ n (flipQ p i.toNat j.toNat 1 s q)) (fnK Try.prog (kc (tabOf [e_l01Is, e_l01Add, e_l03Told])) 40 (rnd [] 40 0) 44 [.agg [I p, I r, I k, I c, .vi .u8 27 n q], I i, I j, I 1, I s] done) := by
  obtain ⟨hB, hi, hj, hij, _, hs, heq⟩ := codeFlip0 h0
  obtain ⟨hp', _, _, _, hn, _⟩ := isB_sizes hB
  obtain ⟨i', rfl⟩ : ∃ i' : Nat, i = i' := ⟨i.toNat, by omega⟩
  obtain ⟨j', rfl⟩ : ∃ j' : Nat, j = j' := ⟨j.toNat, by omega⟩
  have hi' : i' < n := by omega
  have hj' : j' < n := by omega
  obtain ⟨hp, a1, b1, c1, _⟩ := mod9_of hB hr hi'
  obtain ⟨_, a2, b2, c2, _⟩ := mod9_of hB hr hj'
  rw [eqF1, decide_eq_true_eq, toN, toN] at heq
  rw [sspecFlip1 p r k c n q i' j' s 0, W_of (n := (n : Int) - 1) (by omega) (by omega), W_of (n := p - 1) (by omega) (by omega), W_of (n := 0 - s) (by omega) (by omega), bifF (show (!isB p r k c n q) = false by rw [hB]; rfl), toN, toN, bifT (show (decide (0 ≤ (i' : Int))) = true from decide_eq_true (by omega)), bifF (show (!decide ((i' : Int) ≤ ((n : Int) - 1))) = false by rw [decide_eq_true (show ((i' : Int) ≤ ((n : Int) - 1)) from by omega)]; rfl), bifT (show (decide (0 ≤ (j' : Int))) = true from decide_eq_true (by omega)), bifF (show (!decide ((j' : Int) ≤ ((n : Int) - 1))) = false by rw [decide_eq_true (show ((j' : Int) ≤ ((n : Int) - 1)) from by omega)]; rfl), bifT (show (decide (1 ≤ s)) = true from decide_eq_true (by omega)), bifF (show (!decide (s ≤ (p - 1))) = false by rw [decide_eq_true (show (s ≤ (p - 1)) from by omega)]; rfl), bifF (show (decide ((i' : Int) = (j' : Int))) = false from decide_eq_false (by omega)), chkd (show (0 ≤ (i' : Int)) ∧ ((i' : Int) < ((n : Nat) : Int)) by omega), chkd (show (0 ≤ (j' : Int)) ∧ ((j' : Int) < ((n : Nat) : Int)) by omega), bifF (show (!decide ((intsFrom (q (i')) 9 9) = (intsFrom (q (j')) 9 9))) = false by rw [decide_eq_true (show ((intsFrom (q (i')) 9 9) = (intsFrom (q (j')) 9 9)) from heq)]; rfl)]
  have f1 : n ≤ 4294967296 := by omega
  have f3 : n ≤ 60 := by omega
  have f4 : n ≤ 1048576 := by omega
  have f5 : 0 ≤ p - s ∧ p - s ≤ 100 := by omega
  have f6 : 0 ≤ s ∧ s ≤ 100 := by omega
  have f7 : -100 ≤ s ∧ s ≤ 100 := by omega
  have f8 : -100 ≤ 0 - s ∧ 0 - s ≤ 100 := by omega
  have f9 : ¬ (n = 0 ∧ ¬ q 0 0 = 0) := by omega
  simp only [chknd f9, toN, Nat.zero_add, Nat.sub_zero, Nat.le_refl, f1, f3, f4, f5, f6, f7, f8, hi.1, hi.2, hj.1, hj.2, hi', hj', hp, a1, b1, c1, a2, b2, c2, beq_self_eq_true, and_self, decide_true, Bool.and_self, chk_true]
  exact kept_gives (flip_cells1 p s (0 - s) n i' j' q (fun f g => by rw [Int.zero_sub]))
theorem specFlip2_ok (s : Int) (h0 : codeFlipProducts ⟨p, r, k, c, n, q⟩ i j 2 s = 0) (hr : rngB n q = true) : Gives (.tup [.agg [I p, I r, I k, I c, .sl 0 0 (nzL n (flipQ p i.toNat j.toNat 2 s q)).length (nzL n (flipQ p i.toNat j.toNat 2 s q)).length], I 0]) (nzL n (flipQ p i.toNat j.toNat 2 s q)).length (keptQ n (flipQ p i.toNat j.toNat 2 s q)) (fnK Try.prog (kc (tabOf [e_l01Is, e_l01Add, e_l03Told])) 40 (rnd [] 40 0) 44 [.agg [I p, I r, I k, I c, .vi .u8 27 n q], I i, I j, I 2, I s] done) := by
  obtain ⟨hB, hi, hj, hij, _, hs, heq⟩ := codeFlip0 h0
  obtain ⟨hp', _, _, _, hn, _⟩ := isB_sizes hB
  obtain ⟨i', rfl⟩ : ∃ i' : Nat, i = i' := ⟨i.toNat, by omega⟩
  obtain ⟨j', rfl⟩ : ∃ j' : Nat, j = j' := ⟨j.toNat, by omega⟩
  have hi' : i' < n := by omega
  have hj' : j' < n := by omega
  obtain ⟨hp, a1, b1, c1, _⟩ := mod9_of hB hr hi'
  obtain ⟨_, a2, b2, c2, _⟩ := mod9_of hB hr hj'
  rw [eqF2, decide_eq_true_eq, toN, toN] at heq
  rw [sspecFlip2 p r k c n q i' j' s 0, W_of (n := (n : Int) - 1) (by omega) (by omega), W_of (n := p - 1) (by omega) (by omega), W_of (n := 0 - s) (by omega) (by omega), bifF (show (!isB p r k c n q) = false by rw [hB]; rfl), toN, toN, bifT (show (decide (0 ≤ (i' : Int))) = true from decide_eq_true (by omega)), bifF (show (!decide ((i' : Int) ≤ ((n : Int) - 1))) = false by rw [decide_eq_true (show ((i' : Int) ≤ ((n : Int) - 1)) from by omega)]; rfl), bifT (show (decide (0 ≤ (j' : Int))) = true from decide_eq_true (by omega)), bifF (show (!decide ((j' : Int) ≤ ((n : Int) - 1))) = false by rw [decide_eq_true (show ((j' : Int) ≤ ((n : Int) - 1)) from by omega)]; rfl), bifT (show (decide (1 ≤ s)) = true from decide_eq_true (by omega)), bifF (show (!decide (s ≤ (p - 1))) = false by rw [decide_eq_true (show (s ≤ (p - 1)) from by omega)]; rfl), bifF (show (decide ((i' : Int) = (j' : Int))) = false from decide_eq_false (by omega)), chkd (show (0 ≤ (i' : Int)) ∧ ((i' : Int) < ((n : Nat) : Int)) by omega), chkd (show (0 ≤ (j' : Int)) ∧ ((j' : Int) < ((n : Nat) : Int)) by omega), bifF (show (!decide ((intsFrom (q (i')) 18 9) = (intsFrom (q (j')) 18 9))) = false by rw [decide_eq_true (show ((intsFrom (q (i')) 18 9) = (intsFrom (q (j')) 18 9)) from heq)]; rfl)]
  have f1 : n ≤ 4294967296 := by omega
  have f3 : n ≤ 60 := by omega
  have f4 : n ≤ 1048576 := by omega
  have f5 : 0 ≤ p - s ∧ p - s ≤ 100 := by omega
  have f6 : 0 ≤ s ∧ s ≤ 100 := by omega
  have f7 : -100 ≤ s ∧ s ≤ 100 := by omega
  have f8 : -100 ≤ 0 - s ∧ 0 - s ≤ 100 := by omega
  have f9 : ¬ (n = 0 ∧ ¬ q 0 0 = 0) := by omega
  simp only [chknd f9, toN, Nat.zero_add, Nat.sub_zero, Nat.le_refl, f1, f3, f4, f5, f6, f7, f8, hi.1, hi.2, hj.1, hj.2, hi', hj', hp, a1, b1, c1, a2, b2, c2, beq_self_eq_true, and_self, decide_true, Bool.and_self, chk_true]
  exact kept_gives (flip_cells2 p s (0 - s) n i' j' q (fun f g => by rw [Int.zero_sub]))
theorem implFlip0_ok (s : Int) (h0 : codeFlipProducts ⟨p, r, k, c, n, q⟩ i j 0 s = 0) (hr : rngB n q = true) : GivesR (.tup [.agg [I p, I r, I k, I c, .sl 0 0 (nzL n (flipQ p i.toNat j.toNat 0 s q)).length n], I 0]) (nzL n (flipQ p i.toNat j.toNat 0 s q)).length n (keptQ n (flipQ p i.toNat j.toNat 0 s q)) (fnK Try.prog (kc (tabOf [e_IsScheme, e_sum]) (mtabOf [m_kept])) 40 (rnd [] 40 0) 45 [.agg [I p, I r, I k, I c, .vi .u8 27 n q], I i, I j, I 0, I s] done) := by
  obtain ⟨hB, hi, hj, hij, _, hs, heq⟩ := codeFlip0 h0
  obtain ⟨hp', _, _, _, hn, _⟩ := isB_sizes hB
  obtain ⟨i', rfl⟩ : ∃ i' : Nat, i = i' := ⟨i.toNat, by omega⟩
  obtain ⟨j', rfl⟩ : ∃ j' : Nat, j = j' := ⟨j.toNat, by omega⟩
  have hi' : i' < n := by omega
  have hj' : j' < n := by omega
  obtain ⟨hp, a1, b1, c1, _⟩ := mod9_of hB hr hi'
  obtain ⟨_, a2, b2, c2, _⟩ := mod9_of hB hr hj'
  rw [eqF0, decide_eq_true_eq, toN, toN] at heq
  rw [simplFlip0 p r k c n q i' j' s 0, W_of (n := p - s) (by omega) (by omega), bifF (show (!isB p r k c n q) = false by rw [hB]; rfl), toN, toN, bifF (show (decide ((i' : Int) < 0)) = false from decide_eq_false (by omega)), bifF (show (decide (((n : Nat) : Int) ≤ (i' : Int))) = false from decide_eq_false (by omega)), bifF (show (decide ((j' : Int) < 0)) = false from decide_eq_false (by omega)), bifF (show (decide (((n : Nat) : Int) ≤ (j' : Int))) = false from decide_eq_false (by omega)), bifF (show (decide (s < 1)) = false from decide_eq_false (by omega)), bifF (show (decide (p ≤ s)) = false from decide_eq_false (by omega)), bifF (show (decide ((i' : Int) = (j' : Int))) = false from decide_eq_false (by omega)), chkd (show (0 ≤ (i' : Int)) ∧ ((i' : Int) < ((n : Nat) : Int)) by omega), chkd (show (0 ≤ (j' : Int)) ∧ ((j' : Int) < ((n : Nat) : Int)) by omega), bifF (show (!decide ((intsFrom (q (i')) 0 9) = (intsFrom (q (j')) 0 9))) = false by rw [decide_eq_true (show ((intsFrom (q (i')) 0 9) = (intsFrom (q (j')) 0 9)) from heq)]; rfl)]
  have f1 : n ≤ 4294967296 := by omega
  have f3 : n ≤ 60 := by omega
  have f4 : n ≤ 1048576 := by omega
  have f5 : 0 ≤ p - s ∧ p - s ≤ 100 := by omega
  have f6 : 0 ≤ s ∧ s ≤ 100 := by omega
  have f7 : -100 ≤ s ∧ s ≤ 100 := by omega
  have f8 : -100 ≤ 0 - s ∧ 0 - s ≤ 100 := by omega
  have f9 : ¬ (n = 0 ∧ ¬ q 0 0 = 0) := by omega
  simp only [chknd f9, toN, Nat.zero_add, Nat.sub_zero, Nat.le_refl, f1, f3, f4, f5, f6, f7, f8, hi.1, hi.2, hj.1, hj.2, hi', hj', hp, a1, b1, c1, a2, b2, c2, beq_self_eq_true, and_self, decide_true, Bool.and_self, chk_true]
  exact kept_room (flip_cells0 p s (p - s) n i' j' q (fun f g => sumQ_neg p s f g))
theorem implFlip1_ok (s : Int) (h0 : codeFlipProducts ⟨p, r, k, c, n, q⟩ i j 1 s = 0) (hr : rngB n q = true) : GivesR (.tup [.agg [I p, I r, I k, I c, .sl 0 0 (nzL n (flipQ p i.toNat j.toNat 1 s q)).length n], I 0]) (nzL n (flipQ p i.toNat j.toNat 1 s q)).length n (keptQ n (flipQ p i.toNat j.toNat 1 s q)) (fnK Try.prog (kc (tabOf [e_IsScheme, e_sum]) (mtabOf [m_kept])) 40 (rnd [] 40 0) 45 [.agg [I p, I r, I k, I c, .vi .u8 27 n q], I i, I j, I 1, I s] done) := by
  obtain ⟨hB, hi, hj, hij, _, hs, heq⟩ := codeFlip0 h0
  obtain ⟨hp', _, _, _, hn, _⟩ := isB_sizes hB
  obtain ⟨i', rfl⟩ : ∃ i' : Nat, i = i' := ⟨i.toNat, by omega⟩
  obtain ⟨j', rfl⟩ : ∃ j' : Nat, j = j' := ⟨j.toNat, by omega⟩
  have hi' : i' < n := by omega
  have hj' : j' < n := by omega
  obtain ⟨hp, a1, b1, c1, _⟩ := mod9_of hB hr hi'
  obtain ⟨_, a2, b2, c2, _⟩ := mod9_of hB hr hj'
  rw [eqF1, decide_eq_true_eq, toN, toN] at heq
  rw [simplFlip1 p r k c n q i' j' s 0, W_of (n := p - s) (by omega) (by omega), bifF (show (!isB p r k c n q) = false by rw [hB]; rfl), toN, toN, bifF (show (decide ((i' : Int) < 0)) = false from decide_eq_false (by omega)), bifF (show (decide (((n : Nat) : Int) ≤ (i' : Int))) = false from decide_eq_false (by omega)), bifF (show (decide ((j' : Int) < 0)) = false from decide_eq_false (by omega)), bifF (show (decide (((n : Nat) : Int) ≤ (j' : Int))) = false from decide_eq_false (by omega)), bifF (show (decide (s < 1)) = false from decide_eq_false (by omega)), bifF (show (decide (p ≤ s)) = false from decide_eq_false (by omega)), bifF (show (decide ((i' : Int) = (j' : Int))) = false from decide_eq_false (by omega)), chkd (show (0 ≤ (i' : Int)) ∧ ((i' : Int) < ((n : Nat) : Int)) by omega), chkd (show (0 ≤ (j' : Int)) ∧ ((j' : Int) < ((n : Nat) : Int)) by omega), bifF (show (!decide ((intsFrom (q (i')) 9 9) = (intsFrom (q (j')) 9 9))) = false by rw [decide_eq_true (show ((intsFrom (q (i')) 9 9) = (intsFrom (q (j')) 9 9)) from heq)]; rfl)]
  have f1 : n ≤ 4294967296 := by omega
  have f3 : n ≤ 60 := by omega
  have f4 : n ≤ 1048576 := by omega
  have f5 : 0 ≤ p - s ∧ p - s ≤ 100 := by omega
  have f6 : 0 ≤ s ∧ s ≤ 100 := by omega
  have f7 : -100 ≤ s ∧ s ≤ 100 := by omega
  have f8 : -100 ≤ 0 - s ∧ 0 - s ≤ 100 := by omega
  have f9 : ¬ (n = 0 ∧ ¬ q 0 0 = 0) := by omega
  simp only [chknd f9, toN, Nat.zero_add, Nat.sub_zero, Nat.le_refl, f1, f3, f4, f5, f6, f7, f8, hi.1, hi.2, hj.1, hj.2, hi', hj', hp, a1, b1, c1, a2, b2, c2, beq_self_eq_true, and_self, decide_true, Bool.and_self, chk_true]
  exact kept_room (flip_cells1 p s (p - s) n i' j' q (fun f g => sumQ_neg p s f g))
theorem implFlip2_ok (s : Int) (h0 : codeFlipProducts ⟨p, r, k, c, n, q⟩ i j 2 s = 0) (hr : rngB n q = true) : GivesR (.tup [.agg [I p, I r, I k, I c, .sl 0 0 (nzL n (flipQ p i.toNat j.toNat 2 s q)).length n], I 0]) (nzL n (flipQ p i.toNat j.toNat 2 s q)).length n (keptQ n (flipQ p i.toNat j.toNat 2 s q)) (fnK Try.prog (kc (tabOf [e_IsScheme, e_sum]) (mtabOf [m_kept])) 40 (rnd [] 40 0) 45 [.agg [I p, I r, I k, I c, .vi .u8 27 n q], I i, I j, I 2, I s] done) := by
  obtain ⟨hB, hi, hj, hij, _, hs, heq⟩ := codeFlip0 h0
  obtain ⟨hp', _, _, _, hn, _⟩ := isB_sizes hB
  obtain ⟨i', rfl⟩ : ∃ i' : Nat, i = i' := ⟨i.toNat, by omega⟩
  obtain ⟨j', rfl⟩ : ∃ j' : Nat, j = j' := ⟨j.toNat, by omega⟩
  have hi' : i' < n := by omega
  have hj' : j' < n := by omega
  obtain ⟨hp, a1, b1, c1, _⟩ := mod9_of hB hr hi'
  obtain ⟨_, a2, b2, c2, _⟩ := mod9_of hB hr hj'
  rw [eqF2, decide_eq_true_eq, toN, toN] at heq
  rw [simplFlip2 p r k c n q i' j' s 0, W_of (n := p - s) (by omega) (by omega), bifF (show (!isB p r k c n q) = false by rw [hB]; rfl), toN, toN, bifF (show (decide ((i' : Int) < 0)) = false from decide_eq_false (by omega)), bifF (show (decide (((n : Nat) : Int) ≤ (i' : Int))) = false from decide_eq_false (by omega)), bifF (show (decide ((j' : Int) < 0)) = false from decide_eq_false (by omega)), bifF (show (decide (((n : Nat) : Int) ≤ (j' : Int))) = false from decide_eq_false (by omega)), bifF (show (decide (s < 1)) = false from decide_eq_false (by omega)), bifF (show (decide (p ≤ s)) = false from decide_eq_false (by omega)), bifF (show (decide ((i' : Int) = (j' : Int))) = false from decide_eq_false (by omega)), chkd (show (0 ≤ (i' : Int)) ∧ ((i' : Int) < ((n : Nat) : Int)) by omega), chkd (show (0 ≤ (j' : Int)) ∧ ((j' : Int) < ((n : Nat) : Int)) by omega), bifF (show (!decide ((intsFrom (q (i')) 18 9) = (intsFrom (q (j')) 18 9))) = false by rw [decide_eq_true (show ((intsFrom (q (i')) 18 9) = (intsFrom (q (j')) 18 9)) from heq)]; rfl)]
  have f1 : n ≤ 4294967296 := by omega
  have f3 : n ≤ 60 := by omega
  have f4 : n ≤ 1048576 := by omega
  have f5 : 0 ≤ p - s ∧ p - s ≤ 100 := by omega
  have f6 : 0 ≤ s ∧ s ≤ 100 := by omega
  have f7 : -100 ≤ s ∧ s ≤ 100 := by omega
  have f8 : -100 ≤ 0 - s ∧ 0 - s ≤ 100 := by omega
  have f9 : ¬ (n = 0 ∧ ¬ q 0 0 = 0) := by omega
  simp only [chknd f9, toN, Nat.zero_add, Nat.sub_zero, Nat.le_refl, f1, f3, f4, f5, f6, f7, f8, hi.1, hi.2, hj.1, hj.2, hi', hj', hp, a1, b1, c1, a2, b2, c2, beq_self_eq_true, and_self, decide_true, Bool.and_self, chk_true]
  exact kept_room (flip_cells2 p s (p - s) n i' j' q (fun f g => sumQ_neg p s f g))
end
theorem ce_specFlipProducts_ok : CEntOk ce_specFlipProducts := by
  intro vs a h hv
  unfold ce_specFlipProducts at h
  simp only at h
  split at h
  · rename_i x i j f z
    simp only [Option.map_eq_some_iff] at h
    obtain ⟨s, hs, rfl⟩ := h
    by_cases hf : 0 ≤ f ∧ f ≤ 2
    · have tr {v : AV} {new new' : List KB} := more_told (f := ce_specFlipProducts.1) (n := 40) (m := rnd [] 40 0) (v := v) (new := new) (new' := new') (l := [e_l01Is, e_l01Add, e_l03Told]) (ml := []) hs (rest := [I i, I j, I f, I z]) rfl (by simp [l01Is_ok, l01Add_ok, l03Told_ok]) none_mok rfl rfl
      have hf' : f = 0 ∨ f = 1 ∨ f = 2 := by omega
      rcases hf' with rfl | rfl | rfl
      · refine sAns_told hv (fun h0 => tr (specFlip0_err s.p s.r s.m s.c s.n s.q i j z h0) rfl rfl cleanB_nil) (fun _ _ h => by cases h) (fun h0 hg _ => ?_)
        obtain ⟨q', hx, hq⟩ := specFlip0_ok s.p s.r s.m s.c s.n s.q i j z h0 hg
        exact tr hx (abs_ints hq) rfl (cleanB_ints _ _ _ _ _ _)
      · refine sAns_told hv (fun h0 => tr (specFlip1_err s.p s.r s.m s.c s.n s.q i j z h0) rfl rfl cleanB_nil) (fun _ _ h => by cases h) (fun h0 hg _ => ?_)
        obtain ⟨q', hx, hq⟩ := specFlip1_ok s.p s.r s.m s.c s.n s.q i j z h0 hg
        exact tr hx (abs_ints hq) rfl (cleanB_ints _ _ _ _ _ _)
      · refine sAns_told hv (fun h0 => tr (specFlip2_err s.p s.r s.m s.c s.n s.q i j z h0) rfl rfl cleanB_nil) (fun _ _ h => by cases h) (fun h0 hg _ => ?_)
        obtain ⟨q', hx, hq⟩ := specFlip2_ok s.p s.r s.m s.c s.n s.q i j z h0 hg
        exact tr hx (abs_ints hq) rfl (cleanB_ints _ _ _ _ _ _)
    · have tr {v : AV} {new new' : List KB} := more_told (f := ce_specFlipProducts.1) (n := 40) (m := rnd [] 40 0) (v := v) (new := new) (new' := new') (l := [e_l01Is, e_noFactor]) (ml := []) hs (rest := [I i, I j, I f, I z]) rfl (by simp [l01Is_ok]; exact none_ok' _) none_mok rfl rfl
      have hc : codeFlipProducts s i j f z ≠ 0 := fun h0 => hf (codeFlip0 (p := s.p) (r := s.r) (k := s.m) (c := s.c) (n := s.n) (q := s.q) h0).2.2.2.2.1
      refine sAns_told hv (fun h0 => tr (specFlipE_err s.p s.r s.m s.c s.n s.q i j f z hf h0) rfl rfl cleanB_nil) (fun h0 => absurd h0 hc) (fun h0 => absurd h0 hc)
  · cases h
theorem ce_implFlipProducts_ok : CEntOk ce_implFlipProducts := by
  intro vs a h hv
  unfold ce_implFlipProducts at h
  simp only at h
  split at h
  · rename_i x i j f z
    simp only [Option.map_eq_some_iff] at h
    obtain ⟨s, hs, rfl⟩ := h
    by_cases hf : 0 ≤ f ∧ f ≤ 2
    · have tr {v : AV} {new new' : List KB} := more_told (f := ce_implFlipProducts.1) (n := 40) (m := rnd [] 40 0) (v := v) (new := new) (new' := new') (l := [e_IsScheme, e_sum]) (ml := [m_kept]) hs (rest := [I i, I j, I f, I z]) rfl (by simp [IsScheme_ok, sum_ok]) (by simp [kept_ok]) rfl rfl
      have hf' : f = 0 ∨ f = 1 ∨ f = 2 := by omega
      rcases hf' with rfl | rfl | rfl
      · refine kAns_told hv (fun h0 => tr (implFlip0_err s.p s.r s.m s.c s.n s.q i j z h0) rfl rfl cleanB_nil) (fun h0 hg => ?_)
        obtain ⟨q', hx, hq⟩ := implFlip0_ok s.p s.r s.m s.c s.n s.q i j z h0 hg
        exact tr hx (abs_ints hq) rfl (cleanB_ints _ _ _ _ _ _)
      · refine kAns_told hv (fun h0 => tr (implFlip1_err s.p s.r s.m s.c s.n s.q i j z h0) rfl rfl cleanB_nil) (fun h0 hg => ?_)
        obtain ⟨q', hx, hq⟩ := implFlip1_ok s.p s.r s.m s.c s.n s.q i j z h0 hg
        exact tr hx (abs_ints hq) rfl (cleanB_ints _ _ _ _ _ _)
      · refine kAns_told hv (fun h0 => tr (implFlip2_err s.p s.r s.m s.c s.n s.q i j z h0) rfl rfl cleanB_nil) (fun h0 hg => ?_)
        obtain ⟨q', hx, hq⟩ := implFlip2_ok s.p s.r s.m s.c s.n s.q i j z h0 hg
        exact tr hx (abs_ints hq) rfl (cleanB_ints _ _ _ _ _ _)
    · have tr {v : AV} {new new' : List KB} := more_told (f := ce_implFlipProducts.1) (n := 40) (m := rnd [] 40 0) (v := v) (new := new) (new' := new') (l := [e_IsScheme, e_noFactors]) (ml := []) hs (rest := [I i, I j, I f, I z]) rfl (by simp [IsScheme_ok]; exact none_ok' _) none_mok rfl rfl
      have hc : codeFlipProducts s i j f z ≠ 0 := fun h0 => hf (codeFlip0 (p := s.p) (r := s.r) (k := s.m) (c := s.c) (n := s.n) (q := s.q) h0).2.2.2.2.1
      refine kAns_told hv (fun h0 => tr (implFlipE_err s.p s.r s.m s.c s.n s.q i j f z hf h0) rfl rfl cleanB_nil) (fun h0 => absurd h0 hc)
  · cases h
theorem mFlipProducts_room {x : Sch} {i j f s : Int} (h : codeFlipProducts x i j f s = 0) : (resFlipProducts x i j f s).n ≤ x.n ∧ x.n ≤ 1048576 := by
  obtain ⟨hB, _⟩ := codeFlip0 (p := x.p) (r := x.r) (k := x.m) (c := x.c) (n := x.n) (q := x.q) h
  have hn := (isB_sizes hB).2.2.2.2.1
  exact ⟨nzL_len _ _, by omega⟩
theorem mFlipProducts_fact {x : Sch} {i j f s : Int} (h : codeFlipProducts x i j f s = 0) : (resFlipProducts x i j f s).n ≤ 1048576 := by
  obtain ⟨h1, h2⟩ := mFlipProducts_room h
  omega
end Go.Proofs.Ytpjhlkidebcllaa.Fn
