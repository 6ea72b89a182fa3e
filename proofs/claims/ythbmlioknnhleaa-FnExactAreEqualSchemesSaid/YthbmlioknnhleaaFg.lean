/- What is told of whole schemes is so. -/
import Derived.Test.YthbmlioknnhleaaFd
import Derived.Test.YthbmlioknnhleaaEg
namespace Go.Proofs.Ythbmlioknnhleaa.Fn
open Go Go.Proofs.Ythbmlioknnhleaa.Abs
set_option maxRecDepth 100000
set_option linter.unusedSimpArgs false

theorem sch_eq {x : AV} {s : Sch} (h : sch x = some s) : ∃ (p r k c : Int) (z : AV) (y : Nat × (Nat → Nat → Int)), x = .agg [I p, I r, I k, I c, z] ∧ prods z = some y ∧ s = ⟨p, r, k, c, y.1, y.2⟩ := by
  unfold sch at h
  split at h
  · simp only [Option.map_eq_some_iff] at h
    obtain ⟨y, hy, rfl⟩ := h
    exact ⟨_, _, _, _, _, y, rfl, hy, rfl⟩
  · cases h
theorem toScheme_ok : EntOk e_toScheme := by
  intro vs v new h
  unfold e_toScheme at h
  simp only at h
  split at h
  · rename_i x
    simp only [Option.map_eq_some_iff, Prod.mk.injEq, decide_eq_true_eq] at h
    obtain ⟨s, hs, h1, rfl, rfl⟩ := h
    obtain ⟨p, r, k, c, z, y, rfl, hy, rfl⟩ := sch_eq hs
    exact ent_run (l := [e_toProductS]) (vs' := [.agg [I p, I r, I k, I c, .vi .u8 27 y.1 y.2]]) (by simp [toProductS_ok]) rfl (weak_cons (weak_sch hy) weak_nil) rfl rfl ((stoScheme p r k c y.1 y.2 0).trans (chkd h1 _)) rfl (cleanB_ints _ _ _ _ _ _)
  · cases h
theorem eqScheme_ok : EntOk e_eqScheme := by
  intro vs v new h
  unfold e_eqScheme at h
  simp only at h
  split at h
  · simp only [Option.bind_eq_some_iff, Option.map_eq_some_iff, Prod.mk.injEq, decide_eq_true_eq] at h
    obtain ⟨s, hs, t, ht, h1, rfl, rfl⟩ := h
    obtain ⟨p, r, k, c, z, y, rfl, hy, rfl⟩ := sch_eq hs
    obtain ⟨p', r', k', c', z', y', rfl, hy', rfl⟩ := sch_eq ht
    refine ent_run (l := [e_eqProductS]) (n := 40) (m := rnd [] 40 0) (vs' := [.agg [I p, I r, I k, I c, .vi .u8 27 y.1 y.2], .agg [I p', I r', I k', I c', .vi .u8 27 y'.1 y'.2]]) (by simp [eqProductS_ok]) rfl (weak_cons (weak_sch hy) (weak_cons (weak_sch hy') weak_nil)) rfl rfl ((seqScheme p r k c y.1 y.2 p' r' k' c' y'.1 y'.2 0).trans ?_) rfl cleanB_nil
    rw [chkd h1]
    unfold eqS
    simp only
    cases decide (p = p') <;> cases decide (r = r') <;> cases decide (k = k') <;> cases decide (c = c') <;> cases eqPs y.1 y.2 y'.1 y'.2 <;> rfl
  · cases h
theorem heldScheme_ok : EntOk e_heldScheme := by
  intro vs v new h
  unfold e_heldScheme at h
  simp only at h
  split at h
  · rename_i x s
    simp only [Option.map_eq_some_iff, Prod.mk.injEq] at h
    obtain ⟨a, hs, h1, rfl, rfl⟩ := h
    obtain ⟨p, r, k, c, z, y, rfl, hy, rfl⟩ := sch_eq hs
    refine ent_run (l := [e_heldProductS]) (n := 40) (m := rnd [] 40 0) (vs' := [.agg [I p, I r, I k, I c, .vi .u8 27 y.1 y.2], I s]) (by simp [heldProductS_ok]) rfl (weak_cons (weak_sch hy) (same_weak (vs := [I s]))) rfl rfl ((sheldScheme p r k c y.1 y.2 s 0).trans ?_) rfl cleanB_nil
    rw [chkb h1]
    simp only [Bool.and_eq_true, decide_eq_true_eq] at h1
    cases heldB s y.1 y.2 with
    | false => rfl
    | true =>
      have : ¬ (s + 27 * (y.1 : Int) < 0) := by omega
      simp [this]
  · cases h
theorem markScheme_ok : MEntOk m_markScheme := by
  intro vs b v b' h
  unfold m_markScheme at h
  simp only at h
  split at h
  · rename_i p r k c n t s
    simp only [Option.some.injEq, Prod.mk.injEq, Bool.and_eq_true, decide_eq_true_eq] at h
    obtain ⟨⟨h1, h2, h3, h4, h5, h6, h7, h8⟩, rfl, rfl⟩ := h
    obtain ⟨be, bsz, bk, bn, bq⟩ := b
    simp only at h1 h2 h3 h4 h5 h6
    subst h1 h3 h4 h5
    subst h2
    have hr := smarkScheme p r k c t bq s 0
    rw [chkb (by simp [h6, h7, h8])] at hr
    exact ⟨fnKH_mut mixed plain (tabOf_ok (l := []) (by simp)) (mtabOf_ok (l := [m_markProductS]) (by simp [markProductS_ok])) rfl rfl hr, rfl, rfl, rfl, rfl, Nat.le_refl _, rfl⟩
  · cases h

/-! ### conditional answers -/
theorem sAns_told {f : Nat} {vs : List AV} {nil g : Bool} {code : Int} {s : Sch} (hv : (sAns nil g code s).val.1 = true)
    (herr : code ≠ 0 → Told f vs (.tup [.agg [I 0, I 0, I 0, I 0, .nilsl], I code]) [])
    (hnil : code = 0 → g = true → nil = true → s.n = 0 → Told f vs (.tup [.agg [I s.p, I s.r, I s.m, I s.c, .nilsl], I 0]) [])
    (hok : code = 0 → g = true → (nil = true → s.n ≠ 0) → Told f vs (.tup [.agg [I s.p, I s.r, I s.m, I s.c, .sl 0 0 s.n s.n], I 0]) [⟨tProduct, 27, .ints .u8 27 s.n s.q⟩]) :
    Told f vs (sAns nil g code s).val.2.1 (sAns nil g code s).val.2.2 := by
  unfold sAns Ans.val at hv ⊢
  by_cases h0 : code = 0
  · subst h0
    simp only [decide_true, cond_true, Ans.val] at hv ⊢
    cases nil with
    | false =>
      simp only [Bool.false_and, cond_false, okA, Ans.val] at hv ⊢
      exact hok rfl hv (fun h => by cases h)
    | true =>
      by_cases hs : s.n = 0
      · simp only [hs, Bool.true_and, decide_true, cond_true, nilA, Ans.val] at hv ⊢
        exact hnil rfl hv rfl hs
      · simp only [hs, Bool.true_and, decide_false, cond_false, okA, Ans.val] at hv ⊢
        exact hok rfl hv (fun _ => hs)
  · simp only [h0, decide_false, cond_false, errA, Ans.val]
    exact herr h0
end Go.Proofs.Ythbmlioknnhleaa.Fn
