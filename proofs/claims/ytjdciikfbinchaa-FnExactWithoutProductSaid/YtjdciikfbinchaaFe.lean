/- What is told of WithoutProduct is so. -/
import Derived.Test.YtjdciikfbinchaaFg
import Derived.Test.YtjdciikfbinchaaDe
import Derived.Test.YtjdciikfbinchaaEd1
namespace Go.Proofs.Ytjdciikfbinchaa.Fn
open Go Go.Proofs.Ytjdciikfbinchaa.Abs
set_option maxRecDepth 100000
set_option linter.unusedSimpArgs false
theorem codeWithout0 {a : Sch} {i : Int} (h : codeWithoutProduct a i = 0) : isB a.p a.r a.m a.c a.n a.q = true ∧ 0 ≤ i ∧ i < a.n := by
  unfold codeWithoutProduct at h
  cases hB : isB a.p a.r a.m a.c a.n a.q with
  | false => simp [hB] at h
  | true =>
    simp only [hB, cond_true] at h
    by_cases hi : 0 ≤ i ∧ i < a.n
    · exact ⟨rfl, hi⟩
    · have : (decide (0 ≤ i) && decide (i < (a.n : Int))) = false := by simp; omega
      rw [this] at h
      cases h
theorem mWithoutProduct_fact {x : Sch} {i : Int} (h : codeWithoutProduct x i = 0) : (resWithoutProduct x i).n ≤ 1048576 := by
  obtain ⟨h1, _⟩ := codeWithout0 h
  obtain ⟨_, _, _, _, h5, _⟩ := isB_sizes h1
  show x.n - 1 ≤ 1048576
  omega
theorem without_told {f : Nat} {nil : Bool} {l : List Ent} (hl : ∀ e ∈ l, EntOk e) (hf : tabOf l [] f = none)
    (herr : ∀ (p r k c : Int) (n : Nat) (q : Nat → Nat → Int) (i : Int), codeWithoutProduct ⟨p, r, k, c, n, q⟩ i ≠ 0 → fnK Try.prog (kc (tabOf l)) 40 (rnd [] 40 0) f [.agg [I p, I r, I k, I c, .vi .u8 27 n q], I i] done = some (.tup [.agg [I 0, I 0, I 0, I 0, .nilsl], I (codeWithoutProduct ⟨p, r, k, c, n, q⟩ i)], [], true))
    (hok : ∀ (p r k c : Int) (j d : Nat) (q : Nat → Nat → Int), isB p r k c (j + 1 + d) q = true → ∃ q', fnK Try.prog (kc (tabOf l)) 40 (rnd [] 40 0) f [.agg [I p, I r, I k, I c, .vi .u8 27 (j + 1 + d) q], I j] done = some (.tup [.agg [I p, I r, I k, I c, bif nil && decide (j + d = 0) then .nilsl else .sl 0 0 (j + d) (j + d)], I 0], bif nil && decide (j + d = 0) then [] else [⟨tProduct, 27, .ints .u8 27 (j + d) q'⟩], true) ∧ ∀ a c, a < j + d → c < 27 → withoutQ j q a c = q' a c) :
    CEntOk (f, g_without nil) := by
  intro vs a h hv
  unfold g_without at h
  simp only at h
  split at h
  · rename_i x i
    simp only [Option.map_eq_some_iff] at h
    obtain ⟨s, hs, rfl⟩ := h
    obtain ⟨p, r, k, c, z, y, rfl, hy, rfl⟩ := sch_eq hs
    obtain ⟨n, q⟩ := y
    have hw := weak_cons (weak_sch (p := p) (r := r) (k := k) (c := c) hy) (same_weak (vs := [I i]))
    have tr {v : AV} {new new' : List KB} := told_run (l := l) (cl := []) (ml := []) (n := 40) (m := rnd [] 40 0) (f := f) (vs := [.agg [I p, I r, I k, I c, z], I i]) (vs' := [.agg [I p, I r, I k, I c, .vi .u8 27 n q], I i]) (v := v) (new := new) (new' := new') hl none_cok none_mok rfl hw rfl hf rfl
    have parts (h0 : codeWithoutProduct ⟨p, r, k, c, n, q⟩ i = 0) := hok p r k c i.toNat (n - 1 - i.toNat) q (by
      obtain ⟨h1, h2, h3⟩ := codeWithout0 h0
      simp only at h1 h2 h3
      rwa [show i.toNat + 1 + (n - 1 - i.toNat) = n by omega])
    have e1 (h0 : codeWithoutProduct ⟨p, r, k, c, n, q⟩ i = 0) : i.toNat + (n - 1 - i.toNat) = n - 1 ∧ i.toNat + 1 + (n - 1 - i.toNat) = n ∧ (i.toNat : Int) = i := by
      obtain ⟨h1, h2, h3⟩ := codeWithout0 h0
      simp only at h1 h2 h3
      omega
    refine sAns_told hv (fun h0 => tr (herr p r k c n q i h0) rfl rfl cleanB_nil) (fun h0 _ hnil h1 => ?_) (fun h0 _ hnil => ?_)
    · obtain ⟨q', hr, hq⟩ := parts h0
      obtain ⟨e1, e2, e3⟩ := e1 h0
      rw [e1, e2, e3] at hr
      have h1' : n - 1 = 0 := h1
      simp only [hnil, h1', Bool.true_and, decide_true, cond_true] at hr
      exact tr hr rfl rfl cleanB_nil
    · obtain ⟨q', hr, hq⟩ := parts h0
      obtain ⟨e1, e2, e3⟩ := e1 h0
      rw [e1, e2, e3] at hr
      rw [e1] at hq
      have : (nil && decide (n - 1 = 0)) = false := by
        cases nil with
        | false => rfl
        | true => have := hnil rfl; simpa [resWithoutProduct] using this
      simp only [this, cond_false] at hr
      exact tr hr (abs_ints hq) rfl (cleanB_ints _ _ _ _ _ _)
  · cases h
theorem ce_specWithoutProduct_ok : CEntOk ce_specWithoutProduct := by
  refine without_told (l := [e_l01Is]) (by simp [l01Is_ok]) rfl ?_ ?_
  · intro p r k c n q i h0
    refine (sspecWithoutProduct p r k c n q i 0).trans ?_
    unfold codeWithoutProduct at h0 ⊢
    simp only at h0 ⊢
    cases hB : isB p r k c n q with
    | false => simp
    | true =>
      obtain ⟨_, _, _, _, h5, _⟩ := isB_sizes hB
      have hW : W ((n : Int) - 1) = n - 1 := W_of (by omega) (by omega)
      simp only [hB, cond_true] at h0
      by_cases h1 : 0 ≤ i
      · by_cases h2 : i < n
        · simp [h1, h2] at h0
        · have h3 : ¬ i ≤ (n : Int) - 1 := by omega
          simp [h1, h2, h3, hW]
      · simp [h1]
  · intro p r k c j d q hB
    refine ⟨?q, (sspecWithoutProduct p r k c (j + 1 + d) q j 0).trans ?h1, ?h2⟩
    case h1 =>
      obtain ⟨_, _, _, _, h5, _⟩ := isB_sizes hB
      have hW : W (((j + 1 + d : Nat) : Int) - 1) = ((j + d : Nat) : Int) := by rw [W_of (by omega) (by omega)]; omega
      have e1 : (j : Int) ≤ ((j + d : Nat) : Int) := by omega
      have e2 : (j : Int) ≤ ((j + 1 + d : Nat) : Int) := by omega
      have e3 : ((j + 1 : Nat) : Int) ≤ ((j + 1 + d : Nat) : Int) := by omega
      have e4 : j + 1 + d - (j + 1) = d := by omega
      have e5 : j ≤ 4294967296 := by omega
      have e6 : j + d ≤ 4294967296 := by omega
      have z1 : (0 : Int) ≤ (j : Int) := by omega
      have z2 : (0 : Int) ≤ ((j + 1 : Nat) : Int) := by omega
      simp only [hB, hW, W_succ (show j < 1099511627776 by omega), toN, e1, e2, e3, e4, e5, e6, z1, z2, Nat.zero_add, Nat.sub_zero, and_self, decide_true, Bool.not_true, cond_true, cond_false, chk, beq_self_eq_true, Bool.false_and, Int.le_refl]
      exact rfl
    case h2 =>
      intro a c ha hc
      by_cases h : a < j
      · simp [withoutQ, h]
      · have : j + 1 + (a - j) = a + 1 := by omega
        simp [withoutQ, h, shiftF_eq, this]
theorem ce_implWithoutProduct_ok : CEntOk ce_implWithoutProduct := by
  refine without_told (l := [e_IsScheme]) (by simp [IsScheme_ok]) rfl ?_ ?_
  · intro p r k c n q i h0
    refine (simplWithoutProduct p r k c n q i 0).trans ?_
    unfold codeWithoutProduct at h0 ⊢
    simp only at h0 ⊢
    cases hB : isB p r k c n q with
    | false => simp
    | true =>
      simp only [hB, cond_true] at h0
      by_cases h1 : 0 ≤ i
      · have h1' : ¬ i < 0 := by omega
        by_cases h2 : i < n
        · simp [h1, h2] at h0
        · have h3 : (n : Int) ≤ i := by omega
          simp [h1, h1', h2, h3]
      · have h1' : i < 0 := by omega
        simp [h1, h1']
  · intro p r k c j d q hB
    obtain ⟨_, _, _, _, h5, _⟩ := isB_sizes hB
    have wj : W (0 + (j : Int)) = (j : Int) := by rw [W_of (by omega) (by omega)]; omega
    have wjd : W ((j : Int) + (d : Int)) = ((j + d : Nat) : Int) := by rw [W_of (by omega) (by omega)]; omega
    have wz : W (((j + d : Nat) : Int) - 0) = ((j + d : Nat) : Int) := by rw [W_of (by omega) (by omega)]; omega
    have e0 : ¬ (j : Int) < 0 := by omega
    have e1 : ¬ ((j + 1 + d : Nat) : Int) ≤ (j : Int) := by omega
    have e2 : (j : Int) ≤ ((j + 1 + d : Nat) : Int) := by omega
    have e3 : ((j + 1 : Nat) : Int) ≤ ((j + 1 + d : Nat) : Int) := by omega
    have e4 : j + 1 + d - (j + 1) = d := by omega
    have e5 : j ≤ 4294967296 := by omega
    have e6 : j + d ≤ 4294967296 := by omega
    have e7 : d ≤ 4294967296 := by omega
    have e8 : ¬ ((j + d : Nat) : Int) < 0 := by omega
    have e9 : ((j + d : Nat) : Int) ≤ 4294967296 := by omega
    have z1 : (0 : Int) ≤ (j : Int) := by omega
    have z2 : (0 : Int) ≤ ((j + 1 : Nat) : Int) := by omega
    have z3 : (0 : Int) ≤ ((j + d : Nat) : Int) := by omega
    by_cases hz : j + d = 0
    · obtain rfl : j = 0 := by omega
      obtain rfl : d = 0 := by omega
      refine ⟨fun _ _ => 0, (simplWithoutProduct p r k c (0 + 1 + 0) q 0 0).trans ?_, fun a c h => by omega⟩
      rw [hB]
      rfl
    · have f0 : (0 : Int) < ((j + d : Nat) : Int) := by omega
      have f1 : ¬ 0 = j + d := by omega
      have f2 : j ≤ j + d := by omega
      by_cases hd : d = 0
      · subst hd
        have f3 : j = j + 0 := rfl
        refine ⟨?q, (simplWithoutProduct p r k c (j + 1 + 0) q j 0).trans ?h1, ?h2⟩
        case h1 =>
          simp only [hB, wj, wjd, wz, W_succ (show j < 1099511627776 by omega), toN, e0, e1, e2, e3, e4, e5, e6, e7, e8, e9, z1, z2, z3, hz, f0, f1, f2, show (j = j + 0) = True from eq_true rfl, Nat.zero_add, Nat.sub_zero, and_self, decide_true, decide_false, Bool.not_true, Bool.not_false, cond_true, cond_false, chk, chkn, beq_self_eq_true, Bool.and_false, Bool.true_and, Int.le_refl, Nat.le_refl]
          exact rfl
        case h2 =>
          intro a c ha hc
          have h : a < j := by omega
          simp [withoutQ, h]
      · have f3 : ¬ j = j + d := by omega
        refine ⟨?q2, (simplWithoutProduct p r k c (j + 1 + d) q j 0).trans ?h1, ?h2⟩
        case h1 =>
          simp only [hB, wj, wjd, wz, W_succ (show j < 1099511627776 by omega), toN, e0, e1, e2, e3, e4, e5, e6, e7, e8, e9, z1, z2, z3, hz, f0, f1, f2, f3, Nat.zero_add, Nat.sub_zero, and_self, decide_true, decide_false, Bool.not_true, Bool.not_false, cond_true, cond_false, chk, chkn, beq_self_eq_true, Bool.and_false, Bool.true_and, Int.le_refl, Nat.le_refl]
          exact rfl
        case h2 =>
          intro a c ha hc
          by_cases h : a < j
          · have h3 : ¬ j ≤ a := by omega
            simp [withoutQ, h, h3]
          · have h3 : j ≤ a := by omega
            have : j + 1 + (a - j) = a + 1 := by omega
            simp [withoutQ, h, h3, ha, shiftF_eq, this]
end Go.Proofs.Ytjdciikfbinchaa.Fn
