/- What is told of plus moves is so. -/
import Derived.Test.YtpjhlkidebcllaaFkept
import Derived.Test.YtpjhlkidebcllaaDplus
import Derived.Test.YtpjhlkidebcllaaEplus
namespace Go.Proofs.Ytpjhlkidebcllaa.Fn
open Go Go.Proofs.Ytpjhlkidebcllaa.Abs
set_option maxRecDepth 100000
set_option linter.unusedSimpArgs false
set_option linter.unusedVariables false
theorem held_mC (s : Int) (n : Nat) (q : Nat → Nat → Int) : heldB s n (canonI n 27 (fun a c => bif decide (a < n) then markQ s a c else q a c)) = true := held_markC s n 0 q
theorem kept_gives {p r k c : Int} {N : Nat} {Y Z : Nat → Nat → Int} (h : ∀ a c, a < N → c < 27 → Z a c = Y a c) : Gives (.tup [.agg [I p, I r, I k, I c, .sl 0 0 (nzL N Z).length (nzL N Z).length], I 0]) (nzL N Z).length (keptQ N Z) (some (.tup [.agg [I p, I r, I k, I c, .sl 0 0 (nzL N Y).length (nzL N Y).length], I 0], [⟨tProduct, 27, .ints .u8 27 (nzL N Y).length (keptQ N Y)⟩], true)) := by
  rw [← nzL_congr h]
  refine ⟨_, rfl, fun a c ha hc => ?_⟩
  unfold keptQ
  rw [← nzL_congr h]
  exact h _ c (nzL_lt ha) hc
/-- what a run comes to: a value, and one block of n products of which the first m count -/
def GivesR (v : AV) (m n : Nat) (q : Nat → Nat → Int) (X : R) : Prop := ∃ q', X = some (v, [⟨tProduct, 27, .ints .u8 27 n q'⟩], true) ∧ ∀ a c, a < n → c < 27 → roomQ m q a c = q' a c
theorem kept_room {p r k c : Int} {N : Nat} {Y Z : Nat → Nat → Int} (h : ∀ a c, a < N → c < 27 → Z a c = Y a c) : GivesR (.tup [.agg [I p, I r, I k, I c, .sl 0 0 (nzL N Z).length N], I 0]) (nzL N Z).length N (keptQ N Z) (some (.tup [.agg [I p, I r, I k, I c, .sl 0 0 (nzL N Y).length N], I 0], [⟨tProduct, 27, .ints .u8 27 N (roomQ (nzL N Y).length (keptQ N Y))⟩], true)) := by
  rw [← nzL_congr h]
  refine ⟨_, rfl, fun a c ha hc => ?_⟩
  unfold roomQ
  by_cases h' : a < (nzL N Z).length
  · simp only [h', decide_true, cond_true]
    unfold keptQ
    rw [← nzL_congr h]
    exact h _ c (nzL_lt h') hc
  · simp only [h', decide_false, cond_false]
theorem errL {x y : Int} (h : x = y) : (some (.tup [.agg [I 0, I 0, I 0, I 0, .nilsl], I x], [], true) : R) = some (.tup [.agg [I 0, I 0, I 0, I 0, .nilsl], I y], [], true) := by rw [h]
/-- the products of a scheme are numbers modulo its prime, and none has a form that is 0 everywhere -/
theorem mod9_of {p r k c : Int} {n : Nat} {q : Nat → Nat → Int} (hB : isB p r k c n q = true) (hr : rngB n q = true) {i : Nat} (hi : i < n) : primeB p = true ∧ mod9 p (pA (q i)) = true ∧ mod9 p (pB (q i)) = true ∧ mod9 p (pC (q i)) = true ∧ nzF (q i) = true := by
  obtain ⟨h1, _, _, _, h5, h6⟩ := isB_sizes hB
  have hp : primeB p = true := by unfold primeB; rcases h1 with rfl | rfl | rfl <;> rfl
  have hP := (allN_iff _ n 0).1 h6 i (by omega) (by omega)
  unfold prodB at hP
  simp only [Bool.and_eq_true, Bool.not_eq_true', Bool.or_eq_false_iff] at hP
  obtain ⟨⟨f1, f2, f3⟩, z1, z2, z3⟩ := hP
  have below {m : Int} {f : Nat → Int} (hf : formB p m f = true) (hb : ∀ j, j < 9 → 0 ≤ f j ∧ f j ≤ 255) : ∀ j, j < 9 → 0 ≤ f j ∧ f j < p := fun j hj => by
    have := (allN_iff _ 9 0).1 hf j (by omega) (by omega)
    unfold okAt at this
    have hw : W (f j) = f j := W_of (by have := hb j hj; omega) (by have := hb j hj; omega)
    rw [hw] at this
    simp only [Bool.not_eq_true', Bool.or_eq_false_iff, decide_eq_false_iff_not] at this
    have := hb j hj
    omega
  have bA := below f1 fun j hj => rngB_iff.1 hr i j hi (by omega)
  have bB := below f2 fun j hj => rngB_iff.1 hr i (9 + j) hi (by omega)
  have bC := below f3 fun j hj => rngB_iff.1 hr i (18 + j) hi (by omega)
  refine ⟨hp, mod9_iff.2 fun j hj => by rw [pA_get _ hj]; exact bA j hj, mod9_iff.2 fun j hj => by rw [pB_get _ hj]; exact bB j hj, mod9_iff.2 fun j hj => by rw [pC_get _ hj]; exact bC j hj, ?_⟩
  unfold nzF
  rw [show zero9 (pA (q i)) = false from (zero9_congr fun j hj => pA_get (q i) hj).trans z1, show zero9 (pB (q i)) = false from (zero9_congr fun j hj => pB_get (q i) hj).trans z2, show zero9 (pC (q i)) = false from (zero9_congr fun j hj => pC_get (q i) hj).trans z3]
  rfl
theorem sumQ_neg (p s : Int) (f g : Nat → Int) : sumQ p (p - s) f g = sumQ p (-s) f g := by
  funext i
  unfold sumQ
  have : f i + (p - s) * g i = (f i + -s * g i) + p * g i := by
    rw [Int.sub_mul, Int.neg_mul]
    omega
  rw [this, Int.add_mul_emod_self_left]
theorem codePlus_eq {p r k c : Int} {n : Nat} {q : Nat → Nat → Int} (hB : isB p r k c n q = true) (i j : Int) : codePlusMove ⟨p, r, k, c, n, q⟩ i j = if (0 ≤ i ∧ i < n) ∧ (0 ≤ j ∧ j < n) then (if i = j then 5 else if (n : Int) = 30 then 3 else 0) else 2 := by
  unfold codePlusMove idxB
  simp only [hB, cond_true]
  have e : ((n : Int) = 30) = (n = 30) := by simp; omega
  by_cases c1 : 0 ≤ i <;> by_cases c2 : i < n <;> by_cases c3 : 0 ≤ j <;> by_cases c4 : j < n <;> by_cases c5 : i = j <;> by_cases c6 : n = 30 <;> simp [c1, c2, c3, c4, c5, c6, e]
theorem codePlus0 {p r k c : Int} {n : Nat} {q : Nat → Nat → Int} {i j : Int} (h : codePlusMove ⟨p, r, k, c, n, q⟩ i j = 0) : isB p r k c n q = true ∧ (0 ≤ i ∧ i < n) ∧ (0 ≤ j ∧ j < n) ∧ i ≠ j ∧ (n : Int) ≠ 30 := by
  cases hB : isB p r k c n q with
  | false => unfold codePlusMove at h; simp [hB] at h
  | true =>
    rw [codePlus_eq hB] at h
    refine ⟨rfl, ?_⟩
    (repeat' split at h) <;> omega
/-- a run told, whose first argument is a scheme and whose others hold no variable -/
theorem more_told {f : Nat} {x : AV} {rest : List AV} {s : Sch} (hs : sch x = some s) (hL : allNoL rest = true) {l : List Ent} {ml : List MEnt} (hl : ∀ e ∈ l, EntOk e) (hm : ∀ e ∈ ml, MEntOk e) {n : Nat} {m : Rounds} (hf : tabOf l [] f = none) (hfm : mtabOf ml f = none) {v : AV} {new new' : List KB}
    (h : fnK Try.prog (kc (tabOf l) (mtabOf ml)) n m f (.agg [I s.p, I s.r, I s.m, I s.c, .vi .u8 27 s.n s.q] :: rest) done = some (v, new', true)) (he : absH new = absH new') (hc : clean v = true) (hB : cleanB (absH new)) : Told f (x :: rest) v new := by
  obtain ⟨p, r, k, c, z, w, rfl, hw, rfl⟩ := sch_eq hs
  exact told_run (l := l) (cl := []) (ml := ml) (n := n) (m := m) (f := f) (vs := .agg [I p, I r, I k, I c, z] :: rest) (vs' := .agg [I p, I r, I k, I c, .vi .u8 27 w.1 w.2] :: rest) hl none_cok hm rfl (weak_cons (weak_sch hw) same_weak) (by simp only [allNoL, AV.noL, Bool.and_eq_true, hL, and_true]) hf hfm h he hc hB
section
variable (p r k c : Int) (n : Nat) (q : Nat → Nat → Int) (i j : Int)
theorem implPlus_err (h0 : codePlusMove ⟨p, r, k, c, n, q⟩ i j ≠ 0) : fnK Try.prog (kc (tabOf [e_IsScheme, e_sum]) (mtabOf [m_kept])) 40 (rnd [] 40 0) 40 [.agg [I p, I r, I k, I c, .vi .u8 27 n q], I i, I j] done = some (.tup [.agg [I 0, I 0, I 0, I 0, .nilsl], I (codePlusMove ⟨p, r, k, c, n, q⟩ i j)], [], true) := by
  refine (simplPlus p r k c n q i j 0).trans ?_
  cases hB : isB p r k c n q with
  | false => exact (bifT rfl _ _).trans (errL (by unfold codePlusMove; simp only [hB]; rfl))
  | true =>
    rw [codePlus_eq hB] at h0 ⊢
    rw [bifF (show (!true) = false from rfl)]
    by_cases c1 : i < 0
    · exact (bifT (decide_eq_true c1) _ _).trans (errL (by (repeat' split) <;> omega))
    rw [bifF (decide_eq_false c1)]
    by_cases c2 : (n : Int) ≤ i
    · exact (bifT (decide_eq_true c2) _ _).trans (errL (by (repeat' split) <;> omega))
    rw [bifF (decide_eq_false c2)]
    by_cases c3 : j < 0
    · exact (bifT (decide_eq_true c3) _ _).trans (errL (by (repeat' split) <;> omega))
    rw [bifF (decide_eq_false c3)]
    by_cases c4 : (n : Int) ≤ j
    · exact (bifT (decide_eq_true c4) _ _).trans (errL (by (repeat' split) <;> omega))
    rw [bifF (decide_eq_false c4)]
    by_cases c5 : i = j
    · exact (bifT (decide_eq_true c5) _ _).trans (errL (by (repeat' split) <;> omega))
    rw [bifF (decide_eq_false c5)]
    by_cases c6 : (n : Int) = 30
    · exact (bifT (decide_eq_true c6) _ _).trans (errL (by (repeat' split) <;> omega))
    exfalso
    revert h0
    (repeat' split) <;> omega
theorem specPlus_err (h0 : codePlusMove ⟨p, r, k, c, n, q⟩ i j ≠ 0) : fnK Try.prog (kc (tabOf [e_l01Is, e_l01Add, e_l03Told])) 40 (rnd [] 40 0) 39 [.agg [I p, I r, I k, I c, .vi .u8 27 n q], I i, I j] done = some (.tup [.agg [I 0, I 0, I 0, I 0, .nilsl], I (codePlusMove ⟨p, r, k, c, n, q⟩ i j)], [], true) := by
  refine (sspecPlus p r k c n q i j 0).trans ?_
  cases hB : isB p r k c n q with
  | false => exact (bifT rfl _ _).trans (errL (by unfold codePlusMove; simp only [hB]; rfl))
  | true =>
    have hn := (isB_sizes hB).2.2.2.2.1
    rw [codePlus_eq hB] at h0 ⊢
    rw [bifF (show (!true) = false from rfl), W_of (n := (n : Int) - 1) (by omega) (by omega)]
    by_cases c1 : 0 ≤ i
    · rw [bifT (decide_eq_true c1)]
      by_cases c2 : i ≤ (n : Int) - 1
      · rw [bifF (show (!decide (i ≤ (n : Int) - 1)) = false by simp [c2])]
        by_cases c3 : 0 ≤ j
        · rw [bifT (decide_eq_true c3)]
          by_cases c4 : j ≤ (n : Int) - 1
          · rw [bifF (show (!decide (j ≤ (n : Int) - 1)) = false by simp [c4])]
            by_cases c5 : i = j
            · exact (bifT (decide_eq_true c5) _ _).trans (errL (by (repeat' split) <;> omega))
            rw [bifF (decide_eq_false c5)]
            by_cases c6 : (n : Int) = 30
            · exact (bifT (decide_eq_true c6) _ _).trans (errL (by (repeat' split) <;> omega))
            exfalso
            revert h0
            (repeat' split) <;> omega
          · exact (bifT (show (!decide (j ≤ (n : Int) - 1)) = true by simp [c4]) _ _).trans (errL (by (repeat' split) <;> omega))
        · exact (bifF (decide_eq_false c3) _ _).trans (errL (by (repeat' split) <;> omega))
      · exact (bifT (show (!decide (i ≤ (n : Int) - 1)) = true by simp [c2]) _ _).trans (errL (by (repeat' split) <;> omega))
    · exact (bifF (decide_eq_false c1) _ _).trans (errL (by (repeat' split) <;> omega))
theorem plus_cells (p : Int) (n i k : Nat) (q : Nat → Nat → Int) {s : Int} (hs : sumQ p s (pA (q i)) (pA (q k)) = sumQ p (-1) (pA (q i)) (pA (q k))) (hs' : sumQ p s (pB (q k)) (pB (q i)) = sumQ p (-1) (pB (q k)) (pB (q i))) (a c : Nat) (ha : a < n + 1) (hc : c < 27) : plusQ p n i k q a c = canonI (n + 1) 27 (fun a c1 => bif decide (a < n) then (bif a == k then prodQ (q k) (pB (q i)) (sumQ p 1 (pC (q i)) (pC (q k))) c1 else bif a == i then prodQ (sumQ p s (pA (q i)) (pA (q k))) (pB (q i)) (pC (q i)) c1 else q a c1) else prodQ (q k) (sumQ p s (pB (q k)) (pB (q i))) (pC (q k)) c1) a c := by
  rw [hs, hs']
  simp only [plusQ, canonI, ha, hc, decide_true, Bool.and_self, cond_true]
  by_cases h : a < n
  · have h1 : ¬ a = n := by omega
    simp only [h, h1, decide_true, decide_false, cond_true, cond_false]
    by_cases h2 : a = k
    · subst h2
      simp only [decide_true, beq_self_eq_true, cond_true]
      exact prodQ_congr (fun j hj => pA_get _ hj) (fun _ _ => rfl) (fun _ _ => rfl) hc
    · have h2' : (a == k) = false := by simp [h2]
      simp only [h2, h2', decide_false, cond_false]
      by_cases h3 : a = i
      · subst h3
        simp only [decide_true, beq_self_eq_true, cond_true]
      · have h3' : (a == i) = false := by simp [h3]
        simp only [h3, h3', decide_false, cond_false]
  · have h1 : a = n := by omega
    subst h1
    simp only [Nat.lt_irrefl, decide_true, decide_false, cond_true, cond_false]
    exact prodQ_congr (fun j hj => pA_get _ hj) (fun _ _ => rfl) (fun _ _ => rfl) hc
theorem specPlus_ok (h0 : codePlusMove ⟨p, r, k, c, n, q⟩ i j = 0) (hr : rngB n q = true) : Gives (.tup [.agg [I p, I r, I k, I c, .sl 0 0 (nzL (n + 1) (plusQ p n i.toNat j.toNat q)).length (nzL (n + 1) (plusQ p n i.toNat j.toNat q)).length], I 0]) (nzL (n + 1) (plusQ p n i.toNat j.toNat q)).length (keptQ (n + 1) (plusQ p n i.toNat j.toNat q)) (fnK Try.prog (kc (tabOf [e_l01Is, e_l01Add, e_l03Told])) 40 (rnd [] 40 0) 39 [.agg [I p, I r, I k, I c, .vi .u8 27 n q], I i, I j] done) := by
  obtain ⟨hB, hi, hj, hij, h30⟩ := codePlus0 h0
  have hn := (isB_sizes hB).2.2.2.2.1
  obtain ⟨i', rfl⟩ : ∃ i' : Nat, i = i' := ⟨i.toNat, by omega⟩
  obtain ⟨j', rfl⟩ : ∃ j' : Nat, j = j' := ⟨j.toNat, by omega⟩
  have hi' : i' < n := by omega
  have hj' : j' < n := by omega
  obtain ⟨hp, a1, b1, c1, _⟩ := mod9_of hB hr hi'
  obtain ⟨_, a2, b2, c2, _⟩ := mod9_of hB hr hj'
  rw [sspecPlus p r k c n q i' j' 0, W_of (n := (n : Int) - 1) (by omega) (by omega), bifF (show (!isB p r k c n q) = false by rw [hB]; rfl), bifT (decide_eq_true hi.1), bifF (show (!decide ((i' : Int) ≤ (n : Int) - 1)) = false by simp; omega), bifT (decide_eq_true hj.1), bifF (show (!decide ((j' : Int) ≤ (n : Int) - 1)) = false by simp; omega), bifF (decide_eq_false hij), bifF (decide_eq_false h30)]
  have f1 : n ≤ 4294967296 := by omega
  have f2 : n + 1 ≤ 4294967296 := by omega
  have f3 : n + 1 ≤ 1048576 := by omega
  simp only [toN, Nat.zero_add, Nat.sub_zero, Nat.le_refl, f1, f2, f3, hi.1, hi.2, hj.1, hj.2, hi', hj', hp, a1, b1, c1, a2, b2, c2, beq_self_eq_true, and_self, decide_true, Bool.and_self, chk_true]
  exact kept_gives (plus_cells p n i' j' q rfl rfl)
theorem implPlus_ok (h0 : codePlusMove ⟨p, r, k, c, n, q⟩ i j = 0) (hr : rngB n q = true) : GivesR (.tup [.agg [I p, I r, I k, I c, .sl 0 0 (nzL (n + 1) (plusQ p n i.toNat j.toNat q)).length (n + 1)], I 0]) (nzL (n + 1) (plusQ p n i.toNat j.toNat q)).length (n + 1) (keptQ (n + 1) (plusQ p n i.toNat j.toNat q)) (fnK Try.prog (kc (tabOf [e_IsScheme, e_sum]) (mtabOf [m_kept])) 40 (rnd [] 40 0) 40 [.agg [I p, I r, I k, I c, .vi .u8 27 n q], I i, I j] done) := by
  obtain ⟨hB, hi, hj, hij, h30⟩ := codePlus0 h0
  obtain ⟨hp', _, _, _, hn, _⟩ := isB_sizes hB
  obtain ⟨i', rfl⟩ : ∃ i' : Nat, i = i' := ⟨i.toNat, by omega⟩
  obtain ⟨j', rfl⟩ : ∃ j' : Nat, j = j' := ⟨j.toNat, by omega⟩
  have hi' : i' < n := by omega
  have hj' : j' < n := by omega
  obtain ⟨hp, a1, b1, c1, _⟩ := mod9_of hB hr hi'
  obtain ⟨_, a2, b2, c2, _⟩ := mod9_of hB hr hj'
  rw [simplPlus p r k c n q i' j' 0, W_of (n := p - 1) (by omega) (by omega), bifF (show (!isB p r k c n q) = false by rw [hB]; rfl), bifF (decide_eq_false (show ¬ (i' : Int) < 0 by omega)), bifF (decide_eq_false (show ¬ (n : Int) ≤ (i' : Int) by omega)), bifF (decide_eq_false (show ¬ (j' : Int) < 0 by omega)), bifF (decide_eq_false (show ¬ (n : Int) ≤ (j' : Int) by omega)), bifF (decide_eq_false hij), bifF (decide_eq_false h30), chknd (show ¬ (n = 0 ∧ ¬ q 0 0 = 0) by omega)]
  have f1 : n ≤ 4294967296 := by omega
  have f2 : n + 1 ≤ 4294967296 := by omega
  have f3 : n + 1 ≤ 60 := by omega
  have f4 : 0 ≤ p - 1 ∧ p - 1 ≤ 100 := by omega
  simp only [toN, Nat.zero_add, Nat.sub_zero, Nat.le_refl, f1, f2, f3, f4, hi.1, hi.2, hj.1, hj.2, hi', hj', hp, a1, b1, c1, a2, b2, c2, beq_self_eq_true, and_self, decide_true, Bool.and_self, chk_true]
  exact kept_room (plus_cells p n i' j' q (sumQ_neg p 1 _ _) (sumQ_neg p 1 _ _))
end
theorem ce_specPlusMove_ok : CEntOk ce_specPlusMove := by
  intro vs a h hv
  unfold ce_specPlusMove at h
  simp only at h
  split at h
  · rename_i x i j
    simp only [Option.map_eq_some_iff] at h
    obtain ⟨s, hs, rfl⟩ := h
    have tr {v : AV} {new new' : List KB} := more_told (f := ce_specPlusMove.1) (n := 40) (m := rnd [] 40 0) (v := v) (new := new) (new' := new') (l := [e_l01Is, e_l01Add, e_l03Told]) (ml := []) hs (rest := [I i, I j]) rfl (by simp [l01Is_ok, l01Add_ok, l03Told_ok]) none_mok rfl rfl
    refine sAns_told hv (fun h0 => tr (specPlus_err s.p s.r s.m s.c s.n s.q i j h0) rfl rfl cleanB_nil) (fun _ _ h => by cases h) (fun h0 hg _ => ?_)
    obtain ⟨q', hx, hq⟩ := specPlus_ok s.p s.r s.m s.c s.n s.q i j h0 hg
    exact tr hx (abs_ints hq) rfl (cleanB_ints _ _ _ _ _ _)
  · cases h
theorem ce_implPlusMove_ok : CEntOk ce_implPlusMove := by
  intro vs a h hv
  unfold ce_implPlusMove at h
  simp only at h
  split at h
  · rename_i x i j
    simp only [Option.map_eq_some_iff] at h
    obtain ⟨s, hs, rfl⟩ := h
    have tr {v : AV} {new new' : List KB} := more_told (f := ce_implPlusMove.1) (n := 40) (m := rnd [] 40 0) (v := v) (new := new) (new' := new') (l := [e_IsScheme, e_sum]) (ml := [m_kept]) hs (rest := [I i, I j]) rfl (by simp [IsScheme_ok, sum_ok]) (by simp [kept_ok]) rfl rfl
    refine kAns_told hv (fun h0 => tr (implPlus_err s.p s.r s.m s.c s.n s.q i j h0) rfl rfl cleanB_nil) (fun h0 hg => ?_)
    obtain ⟨q', hx, hq⟩ := implPlus_ok s.p s.r s.m s.c s.n s.q i j h0 hg
    exact tr hx (abs_ints hq) rfl (cleanB_ints _ _ _ _ _ _)
  · cases h
theorem mPlusMove_room {x : Sch} {i j : Int} (h : codePlusMove x i j = 0) : (resPlusMove x i j).n ≤ x.n + 1 ∧ x.n + 1 ≤ 1048576 := by
  obtain ⟨hB, _⟩ := codePlus0 (p := x.p) (r := x.r) (k := x.m) (c := x.c) (n := x.n) (q := x.q) h
  have hn := (isB_sizes hB).2.2.2.2.1
  exact ⟨nzL_len _ _, by omega⟩
theorem mPlusMove_fact {x : Sch} {i j : Int} (h : codePlusMove x i j = 0) : (resPlusMove x i j).n ≤ 1048576 := by
  obtain ⟨h1, h2⟩ := mPlusMove_room h
  omega
end Go.Proofs.Ytpjhlkidebcllaa.Fn
