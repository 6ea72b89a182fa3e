/- What is told of RestrictScheme is so. -/
import Derived.Test.YtjdciikfbinchaaFg
import Derived.Test.YtjdciikfbinchaaDres
import Derived.Test.YtjdciikfbinchaaEres
namespace Go.Proofs.Ytjdciikfbinchaa.Fn
open Go Go.Proofs.Ytjdciikfbinchaa.Abs
set_option maxRecDepth 100000
set_option linter.unusedSimpArgs false
set_option linter.unusedSectionVars false
theorem codeRestrict0 {s : Sch} {a b d : Int} (h : codeRestrictScheme s a b d = 0) : isB s.p s.r s.m s.c s.n s.q = true ∧ (1 ≤ a ∧ a ≤ s.r) ∧ (1 ≤ b ∧ b ≤ s.m) ∧ (1 ≤ d ∧ d ≤ s.c) := by
  unfold codeRestrictScheme at h
  cases hB : isB s.p s.r s.m s.c s.n s.q with
  | false => simp [hB] at h
  | true =>
    simp only [hB, cond_true] at h
    cases hc : ((decide (1 ≤ a) && decide (a ≤ s.r)) && ((decide (1 ≤ b) && decide (b ≤ s.m)) && (decide (1 ≤ d) && decide (d ≤ s.c)))) with
    | false => rw [hc] at h; cases h
    | true =>
      simp only [Bool.and_eq_true, decide_eq_true_eq] at hc
      exact ⟨rfl, hc.1, hc.2.1, hc.2.2⟩
theorem mRestrictScheme_fact {x : Sch} {a b d : Int} (h : codeRestrictScheme x a b d = 0) : (resRestrictScheme x a b d).n ≤ 1048576 := by
  obtain ⟨h1, _⟩ := codeRestrict0 h
  obtain ⟨_, _, _, _, h5, _⟩ := isB_sizes h1
  have := keepL_len (fun i => restB x.m x.c a b d (x.q i)) x.n 0
  show (keepL _ 0 x.n).length ≤ 1048576
  omega
section
variable (p r k c : Int) (n : Nat) (q : Nat → Nat → Int) (a b d : Int) (hn : n ≤ 30) (hk : k ≤ 3) (hc : c ≤ 3) (ha : 1 ≤ a ∧ a ≤ 3) (hb : 1 ≤ b ∧ b ≤ k) (hd : 1 ≤ d ∧ d ≤ c)
abbrev bR : Nat → Bool := fun i => restB k c a b d (q i)
abbrev okR (L : List Nat) (X : R) : Prop := Gives (.tup [.agg [I p, I a, I b, I d, .sl 0 0 L.length L.length], I 0]) L.length (fun i c' => restF k c a b d (q (L.getD i 0)) c') X
include hn hk hc ha hb hd
theorem implRestrictScheme_b (N : Nat) : ∀ (e i m : Nat) (L : List Nat) (qh : Nat → Nat → Int), i + e = n → L.length ≤ i → (∀ j c', j < L.length → c' < 27 → restF k c a b d (q (L.getD j 0)) c' = qh j c') →
    okR p k c q a b d (L ++ keepL (bR k c q a b d) i e) (LimplRestrictScheme_7b p r k c n q a b d N (m + e + 1) (i : Int) L.length qh)
  | 0, i, m, L, qh, h, hL, hq => by
    have h1 : ¬ ((i : Int) < (n : Int)) := by omega
    rw [rimplRestrictScheme_7b]
    simp only [h1, decide_false, cond_false, keepL, List.append_nil]
    exact ⟨qh, rfl, hq⟩
  | e + 1, i, m, L, qh, h, hL, hq => by
    have h1 : (i : Int) < (n : Int) := by omega
    have h0 : (0 : Int) ≤ (i : Int) := by omega
    have hb3 : b ≤ 3 := by omega
    have hd3 : d ≤ 3 := by omega
    have hLl : L.length + 1 ≤ 4294967296 := by omega
    have ih := implRestrictScheme_b N e (i + 1) m
    rw [show m + (e + 1) + 1 = (m + e + 1) + 1 by omega, rimplRestrictScheme_7b]
    rw [bifT (decide_eq_true h1), chkd ⟨h0, h1⟩, chkb (by simp only [ha, hb, hk, and_self, decide_true, Bool.and_self]), chkb (by simp only [hb, hd, hb3, hc, and_self, decide_true, Bool.and_self]), chkb (by simp only [ha, hd, hc, and_self, decide_true, Bool.and_self])]
    simp only [toN, W_succ (show i < 1099511627776 by omega), filt_tree, chkbeq, chkd hLl, decide_true, chk_true]
    cases hB : bR k c q a b d i with
    | false =>
      have e1 : keepL (bR k c q a b d) i (e + 1) = keepL (bR k c q a b d) (i + 1) e := by simp only [keepL, hB, cond_false]
      have hB' : restB k c a b d (q i) = false := hB
      rw [restB] at hB'
      rw [e1]
      rw [hB', cond_false]
      exact ih L qh (by omega) (by omega) hq
    | true =>
      have e1 : L ++ keepL (bR k c q a b d) i (e + 1) = (L ++ [i]) ++ keepL (bR k c q a b d) (i + 1) e := by simp only [keepL, hB, cond_true, List.append_assoc, List.singleton_append]
      have hB' : restB k c a b d (q i) = true := hB
      rw [restB] at hB'
      rw [e1]
      rw [hB', cond_true]
      have := ih (L ++ [i]) (fun a1 c1 => bif decide (a1 < L.length) then qh a1 c1 else prodQ (cutQ k.toNat a.toNat b.toNat (pA (q i))) (cutQ c.toNat b.toNat d.toNat (pB (q i))) (cutQ c.toNat a.toNat d.toNat (pC (q i))) c1) (by omega) (by simp; omega) (fun j c' hj hc' => by
        rw [getD_app hj]
        by_cases hj' : j < L.length
        · simp only [hj', if_true, decide_true, cond_true]; exact hq j c' hj' hc'
        · simp only [hj', if_false, decide_false, cond_false, restF])
      rw [show (L ++ [i]).length = L.length + 1 by simp] at this
      exact this
theorem implRestrictScheme_a (N : Nat) : ∀ (e i m : Nat), i + e = n →
    (keepL (bR k c q a b d) i e = [] → LimplRestrictScheme_7 p r k c n q a b d N (m + e + 1) (i : Int) = some (.tup [.agg [I p, I a, I b, I d, .nilsl], I 0], [], true)) ∧
    (keepL (bR k c q a b d) i e ≠ [] → okR p k c q a b d (keepL (bR k c q a b d) i e) (LimplRestrictScheme_7 p r k c n q a b d N (m + e + 1) (i : Int)))
  | 0, i, m, h => by
    have h1 : ¬ ((i : Int) < (n : Int)) := by omega
    rw [rimplRestrictScheme_7]
    simp only [h1, decide_false, cond_false, keepL]
    exact ⟨fun _ => trivial, fun h => absurd rfl h⟩
  | e + 1, i, m, h => by
    have h1 : (i : Int) < (n : Int) := by omega
    have h0 : (0 : Int) ≤ (i : Int) := by omega
    have hb3 : b ≤ 3 := by omega
    have hd3 : d ≤ 3 := by omega
    have ih := implRestrictScheme_a N e (i + 1) m (by omega)
    rw [show m + (e + 1) + 1 = (m + e + 1) + 1 by omega, rimplRestrictScheme_7]
    rw [bifT (decide_eq_true h1), chkd ⟨h0, h1⟩, chkb (by simp only [ha, hb, hk, and_self, decide_true, Bool.and_self]), chkb (by simp only [hb, hd, hb3, hc, and_self, decide_true, Bool.and_self]), chkb (by simp only [ha, hd, hc, and_self, decide_true, Bool.and_self])]
    simp only [toN, W_succ (show i < 1099511627776 by omega), filt_tree]
    cases hB : bR k c q a b d i with
    | false =>
      have e1 : keepL (bR k c q a b d) i (e + 1) = keepL (bR k c q a b d) (i + 1) e := by simp only [keepL, hB, cond_false]
      have hB' : restB k c a b d (q i) = false := hB
      rw [restB] at hB'
      rw [e1]
      rw [hB', cond_false]
      exact ih
    | true =>
      have e1 : keepL (bR k c q a b d) i (e + 1) = [i] ++ keepL (bR k c q a b d) (i + 1) e := by simp only [keepL, hB, cond_true, List.singleton_append]
      rw [e1]
      refine ⟨fun h => (by simp at h), fun _ => ?_⟩
      have hB' : restB k c a b d (q i) = true := hB
      rw [restB] at hB'
      rw [hB', cond_true]
      exact implRestrictScheme_b p r k c n q a b d hn hk hc ha hb hd N e (i + 1) m [i] (fun _ => prodQ (cutQ k.toNat a.toNat b.toNat (pA (q i))) (cutQ c.toNat b.toNat d.toNat (pB (q i))) (cutQ c.toNat a.toNat d.toNat (pC (q i)))) (by omega) (by simp) (fun j c' hj hc' => by
        have : j = 0 := by simpa using hj
        subst this
        rfl)
theorem specRestrictScheme_b (N : Nat) : ∀ (e i m : Nat) (L : List Nat) (qh : Nat → Nat → Int), i + e = n → L.length ≤ i → (∀ j c', j < L.length → c' < 27 → restF k c a b d (q (L.getD j 0)) c' = qh j c') →
    okR p k c q a b d (L ++ keepL (bR k c q a b d) i e) (LspecRestrictScheme_7b p r k c n q a b d N (m + e + 1) (i : Int) L.length qh)
  | 0, i, m, L, qh, h, hL, hq => by
    have h1 : ¬ ((i : Int) < (n : Int)) := by omega
    rw [rspecRestrictScheme_7b]
    simp only [h1, decide_false, cond_false, keepL, List.append_nil]
    exact ⟨qh, rfl, hq⟩
  | e + 1, i, m, L, qh, h, hL, hq => by
    have h1 : (i : Int) < (n : Int) := by omega
    have h0 : (0 : Int) ≤ (i : Int) := by omega
    have hb3 : b ≤ 3 := by omega
    have hd3 : d ≤ 3 := by omega
    have hLl : L.length + 1 ≤ 4294967296 := by omega
    have ih := specRestrictScheme_b N e (i + 1) m
    rw [show m + (e + 1) + 1 = (m + e + 1) + 1 by omega, rspecRestrictScheme_7b]
    rw [bifT (decide_eq_true h1), chkd ⟨h0, h1⟩, chkb (by simp only [ha, hb, hk, and_self, decide_true, Bool.and_self]), chkb (by simp only [hb, hd, hb3, hc, and_self, decide_true, Bool.and_self]), chkb (by simp only [ha, hd, hc, and_self, decide_true, Bool.and_self])]
    simp only [toN, W_succ (show i < 1099511627776 by omega), filt_tree2, chkbeq, chkd hLl, decide_true, chk_true]
    cases hB : bR k c q a b d i with
    | false =>
      have e1 : keepL (bR k c q a b d) i (e + 1) = keepL (bR k c q a b d) (i + 1) e := by simp only [keepL, hB, cond_false]
      have hB' : restB k c a b d (q i) = false := hB
      rw [restB] at hB'
      rw [e1]
      rw [hB', cond_false]
      exact ih L qh (by omega) (by omega) hq
    | true =>
      have e1 : L ++ keepL (bR k c q a b d) i (e + 1) = (L ++ [i]) ++ keepL (bR k c q a b d) (i + 1) e := by simp only [keepL, hB, cond_true, List.append_assoc, List.singleton_append]
      have hB' : restB k c a b d (q i) = true := hB
      rw [restB] at hB'
      rw [e1]
      rw [hB', cond_true]
      have := ih (L ++ [i]) (fun a1 c1 => bif decide (a1 < L.length) then qh a1 c1 else prodQ (cutQ k.toNat a.toNat b.toNat (pA (q i))) (cutQ c.toNat b.toNat d.toNat (pB (q i))) (cutQ c.toNat a.toNat d.toNat (pC (q i))) c1) (by omega) (by simp; omega) (fun j c' hj hc' => by
        rw [getD_app hj]
        by_cases hj' : j < L.length
        · simp only [hj', if_true, decide_true, cond_true]; exact hq j c' hj' hc'
        · simp only [hj', if_false, decide_false, cond_false, restF])
      rw [show (L ++ [i]).length = L.length + 1 by simp] at this
      exact this
theorem specRestrictScheme_a (N : Nat) : ∀ (e i m : Nat), i + e = n →
    (keepL (bR k c q a b d) i e = [] → LspecRestrictScheme_7 p r k c n q a b d N (m + e + 1) (i : Int) = some (.tup [.agg [I p, I a, I b, I d, .nilsl], I 0], [], true)) ∧
    (keepL (bR k c q a b d) i e ≠ [] → okR p k c q a b d (keepL (bR k c q a b d) i e) (LspecRestrictScheme_7 p r k c n q a b d N (m + e + 1) (i : Int)))
  | 0, i, m, h => by
    have h1 : ¬ ((i : Int) < (n : Int)) := by omega
    rw [rspecRestrictScheme_7]
    simp only [h1, decide_false, cond_false, keepL]
    exact ⟨fun _ => trivial, fun h => absurd rfl h⟩
  | e + 1, i, m, h => by
    have h1 : (i : Int) < (n : Int) := by omega
    have h0 : (0 : Int) ≤ (i : Int) := by omega
    have hb3 : b ≤ 3 := by omega
    have hd3 : d ≤ 3 := by omega
    have ih := specRestrictScheme_a N e (i + 1) m (by omega)
    rw [show m + (e + 1) + 1 = (m + e + 1) + 1 by omega, rspecRestrictScheme_7]
    rw [bifT (decide_eq_true h1), chkd ⟨h0, h1⟩, chkb (by simp only [ha, hb, hk, and_self, decide_true, Bool.and_self]), chkb (by simp only [hb, hd, hb3, hc, and_self, decide_true, Bool.and_self]), chkb (by simp only [ha, hd, hc, and_self, decide_true, Bool.and_self])]
    simp only [toN, W_succ (show i < 1099511627776 by omega), filt_tree2]
    cases hB : bR k c q a b d i with
    | false =>
      have e1 : keepL (bR k c q a b d) i (e + 1) = keepL (bR k c q a b d) (i + 1) e := by simp only [keepL, hB, cond_false]
      have hB' : restB k c a b d (q i) = false := hB
      rw [restB] at hB'
      rw [e1]
      rw [hB', cond_false]
      exact ih
    | true =>
      have e1 : keepL (bR k c q a b d) i (e + 1) = [i] ++ keepL (bR k c q a b d) (i + 1) e := by simp only [keepL, hB, cond_true, List.singleton_append]
      rw [e1]
      refine ⟨fun h => (by simp at h), fun _ => ?_⟩
      have hB' : restB k c a b d (q i) = true := hB
      rw [restB] at hB'
      rw [hB', cond_true]
      exact specRestrictScheme_b p r k c n q a b d hn hk hc ha hb hd N e (i + 1) m [i] (fun _ => prodQ (cutQ k.toNat a.toNat b.toNat (pA (q i))) (cutQ c.toNat b.toNat d.toNat (pB (q i))) (cutQ c.toNat a.toNat d.toNat (pC (q i)))) (by omega) (by simp) (fun j c' hj hc' => by
        have : j = 0 := by simpa using hj
        subst this
        rfl)
end
theorem restrict_told {f : Nat} {l : List Ent} (hl : ∀ e ∈ l, EntOk e) (hf : tabOf l [] f = none)
    (herr : ∀ (p r k c : Int) (n : Nat) (q : Nat → Nat → Int) (a b d : Int), codeRestrictScheme ⟨p, r, k, c, n, q⟩ a b d ≠ 0 → fnK Try.prog (kc (tabOf l)) 40 (rnd [] 40 (n + 1)) f [.agg [I p, I r, I k, I c, .vi .u8 27 n q], I a, I b, I d] done = some (.tup [.agg [I 0, I 0, I 0, I 0, .nilsl], I (codeRestrictScheme ⟨p, r, k, c, n, q⟩ a b d)], [], true))
    (hok : ∀ (p r k c : Int) (n : Nat) (q : Nat → Nat → Int) (a b d : Int), codeRestrictScheme ⟨p, r, k, c, n, q⟩ a b d = 0 →
      (keepL (bR k c q a b d) 0 n = [] → fnK Try.prog (kc (tabOf l)) 40 (rnd [] 40 (n + 1)) f [.agg [I p, I r, I k, I c, .vi .u8 27 n q], I a, I b, I d] done = some (.tup [.agg [I p, I a, I b, I d, .nilsl], I 0], [], true)) ∧
      (keepL (bR k c q a b d) 0 n ≠ [] → okR p k c q a b d (keepL (bR k c q a b d) 0 n) (fnK Try.prog (kc (tabOf l)) 40 (rnd [] 40 (n + 1)) f [.agg [I p, I r, I k, I c, .vi .u8 27 n q], I a, I b, I d] done))) :
    CEntOk (f, g_restrict) := by
  intro vs s h hv
  unfold g_restrict at h
  simp only at h
  split at h
  · rename_i x a b d
    simp only [Option.map_eq_some_iff] at h
    obtain ⟨s, hs, rfl⟩ := h
    obtain ⟨p, r, k, c, z, y, rfl, hy, rfl⟩ := sch_eq hs
    obtain ⟨n, q⟩ := y
    have hw := weak_cons (weak_sch (p := p) (r := r) (k := k) (c := c) hy) (same_weak (vs := [I a, I b, I d]))
    have tr {v : AV} {new new' : List KB} := told_run (l := l) (cl := []) (ml := []) (n := 40) (m := rnd [] 40 (n + 1)) (f := f) (vs := [.agg [I p, I r, I k, I c, z], I a, I b, I d]) (vs' := [.agg [I p, I r, I k, I c, .vi .u8 27 n q], I a, I b, I d]) (v := v) (new := new) (new' := new') hl none_cok none_mok rfl hw rfl hf rfl
    refine sAns_told hv (fun h0 => tr (herr p r k c n q a b d h0) rfl rfl cleanB_nil) (fun h0 _ _ h1 => ?_) (fun h0 _ h1 => ?_)
    · exact tr ((hok p r k c n q a b d h0).1 (List.length_eq_zero_iff.1 h1)) rfl rfl cleanB_nil
    · obtain ⟨q', hr, hq⟩ := (hok p r k c n q a b d h0).2 (fun e => h1 rfl (List.length_eq_zero_iff.2 e))
      exact tr hr (abs_ints hq) rfl (cleanB_ints _ _ _ _ _ _)
  · cases h
theorem ce_implRestrictScheme_ok : CEntOk ce_implRestrictScheme := by
  refine restrict_told (l := [e_IsScheme, e_isSize, e_cut]) (by simp [IsScheme_ok, isSize_ok, cut_ok]) rfl ?_ ?_
  · intro p r k c n q a b d h0
    refine (simplRestrictScheme p r k c n q a b d (n + 1)).trans ?_
    unfold codeRestrictScheme at h0 ⊢
    simp only at h0 ⊢
    cases hB : isB p r k c n q with
    | false => simp
    | true =>
      obtain ⟨_, h2, h3, h4, _⟩ := isB_sizes hB
      simp only [hB, cond_true] at h0
      cases hc : ((decide (1 ≤ a) && decide (a ≤ r)) && ((decide (1 ≤ b) && decide (b ≤ k)) && (decide (1 ≤ d) && decide (d ≤ c)))) with
      | true => rw [hc] at h0; exact absurd rfl h0
      | false =>
        simp only [Bool.not_true, cF, cT]
        have : ∀ X : R, ((sizeB a && (sizeB b && sizeB d)) = true → ¬ r < a → ¬ k < b → ¬ c < d → False) → (bif !(sizeB a && (sizeB b && sizeB d)) then some ((AV.tup [(AV.agg [I 0, I 0, I 0, I 0, AV.nilsl]), I 2]), ([] : List KB), true) else bif decide (r < a) then some ((AV.tup [(AV.agg [I 0, I 0, I 0, I 0, AV.nilsl]), I 2]), [], true) else bif decide (k < b) then some ((AV.tup [(AV.agg [I 0, I 0, I 0, I 0, AV.nilsl]), I 2]), [], true) else bif decide (c < d) then some ((AV.tup [(AV.agg [I 0, I 0, I 0, I 0, AV.nilsl]), I 2]), [], true) else X) = some ((AV.tup [(AV.agg [I 0, I 0, I 0, I 0, AV.nilsl]), I 2]), [], true) := by
          intro X hX
          by_cases e0 : (sizeB a && (sizeB b && sizeB d)) = true
          · by_cases e1 : r < a
            · simp [e0, e1]
            · by_cases e2 : k < b
              · simp [e0, e1, e2]
              · by_cases e3 : c < d
                · simp [e0, e1, e2, e3]
                · exact (hX e0 e1 e2 e3).elim
          · simp only [Bool.not_eq_true] at e0
            simp [e0]
        refine this _ fun e0 e1 e2 e3 => ?_
        simp only [sizeB, Bool.and_eq_true, decide_eq_true_eq] at e0
        have : ((decide (1 ≤ a) && decide (a ≤ r)) && ((decide (1 ≤ b) && decide (b ≤ k)) && (decide (1 ≤ d) && decide (d ≤ c)))) = true := by
          simp only [Bool.and_eq_true, decide_eq_true_eq]
          omega
        rw [hc] at this
        cases this
  · intro p r k c n q a b d h0
    obtain ⟨hB, ha, hb, hd⟩ := codeRestrict0 h0
    simp only at hB ha hb hd
    obtain ⟨_, h2, h3, h4, h5, _⟩ := isB_sizes hB
    have e0 : (sizeB a && (sizeB b && sizeB d)) = true := by
      simp only [sizeB, Bool.and_eq_true, decide_eq_true_eq]
      omega
    have e : fnK Try.prog (kc (tabOf [e_IsScheme, e_isSize, e_cut])) 40 (rnd [] 40 (n + 1)) ce_implRestrictScheme.1 [.agg [I p, I r, I k, I c, .vi .u8 27 n q], I a, I b, I d] done = LimplRestrictScheme_7 p r k c n q a b d (n + 1) (n + 1) 0 := by
      refine (simplRestrictScheme p r k c n q a b d (n + 1)).trans ?_
      simp only [hB, e0, show ¬ r < a by omega, show ¬ k < b by omega, show ¬ c < d by omega, Bool.not_true, decide_false, cF]
    have := implRestrictScheme_a p r k c n q a b d h5 h3.2 h4.2 ⟨ha.1, by omega⟩ hb hd (n + 1) n 0 0 (by omega)
    rw [show 0 + n + 1 = n + 1 by omega, show ((0 : Nat) : Int) = 0 from rfl, ← e] at this
    exact this
theorem six_tree (b1 b2 b3 b4 b5 b6 : Bool) (X E : R) (h : ((b1 && b2) && ((b3 && b4) && (b5 && b6))) = false) : (bif b1 then (bif !b2 then E else bif b3 then (bif !b4 then E else bif b5 then (bif !b6 then E else X) else E) else E) else E) = E := by
  cases b1 <;> cases b2 <;> cases b3 <;> cases b4 <;> cases b5 <;> cases b6 <;> first | rfl | cases h
theorem ce_specRestrictScheme_ok : CEntOk ce_specRestrictScheme := by
  refine restrict_told (l := [e_l01Is, e_l02Cut]) (by simp [l01Is_ok, l02Cut_ok]) rfl ?_ ?_
  · intro p r k c n q a b d h0
    refine (sspecRestrictScheme p r k c n q a b d (n + 1)).trans ?_
    unfold codeRestrictScheme at h0 ⊢
    simp only at h0 ⊢
    cases hB : isB p r k c n q with
    | false => simp
    | true =>
      simp only [hB, cond_true] at h0
      cases hc : ((decide (1 ≤ a) && decide (a ≤ r)) && ((decide (1 ≤ b) && decide (b ≤ k)) && (decide (1 ≤ d) && decide (d ≤ c)))) with
      | true => rw [hc] at h0; exact absurd rfl h0
      | false =>
        simp only [Bool.not_true, cF, cT]
        exact six_tree _ _ _ _ _ _ _ _ hc
  · intro p r k c n q a b d h0
    obtain ⟨hB, ha, hb, hd⟩ := codeRestrict0 h0
    simp only at hB ha hb hd
    obtain ⟨_, h2, h3, h4, h5, _⟩ := isB_sizes hB
    have e : fnK Try.prog (kc (tabOf [e_l01Is, e_l02Cut])) 40 (rnd [] 40 (n + 1)) ce_specRestrictScheme.1 [.agg [I p, I r, I k, I c, .vi .u8 27 n q], I a, I b, I d] done = LspecRestrictScheme_7 p r k c n q a b d (n + 1) (n + 1) 0 := by
      refine (sspecRestrictScheme p r k c n q a b d (n + 1)).trans ?_
      simp only [hB, ha, hb, hd, Bool.not_true, decide_true, cT, cF]
    have := specRestrictScheme_a p r k c n q a b d h5 h3.2 h4.2 ⟨ha.1, by omega⟩ hb hd (n + 1) n 0 0 (by omega)
    rw [show 0 + n + 1 = n + 1 by omega, show ((0 : Nat) : Int) = 0 from rfl, ← e] at this
    exact this
end Go.Proofs.Ytjdciikfbinchaa.Fn
