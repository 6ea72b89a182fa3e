/- What is told of AddProduct is so. -/
import Derived.Test.YtjdciikfbinchaaFg
import Derived.Test.YtjdciikfbinchaaDadd
import Derived.Test.YtjdciikfbinchaaEadd
namespace Go.Proofs.Ytjdciikfbinchaa.Fn
open Go Go.Proofs.Ytjdciikfbinchaa.Abs
set_option maxRecDepth 100000
set_option linter.unusedSimpArgs false
theorem prod27_eq {x : AV} {y : Nat → Int} (h : prod27 x = some y) : x = .agg (cellsI .u8 27 y) := by
  unfold prod27 at h
  split at h
  · simp only [Option.map_eq_some_iff] at h
    obtain ⟨l, hl, rfl⟩ := h
    rw [u8s_eq hl]
  · cases h
theorem toProduct_c (y : Nat → Int) : fnK Try.prog (kc (tabOf [])) 40 (rnd [] 40 10) 47 [.agg (cellsI .u8 27 y)] done = some (.agg (cellsI .u8 27 y), [], true) := by kernel_rfl
theorem toProduct_ok : EntOk e_toProduct := by
  intro vs v new h
  unfold e_toProduct at h
  simp only at h
  split at h
  · simp only [Option.map_eq_some_iff, Prod.mk.injEq, true_and] at h
    obtain ⟨y, hy, rfl, rfl⟩ := h
    rw [prod27_eq hy]
    exact ent_run none_ok rfl same_weak rfl rfl (toProduct_c y) (cleanL_cells _ _ _ _) cleanB_nil
  · cases h
theorem codeAdd0 {a : Sch} {y : Nat → Int} (h : codeAddProduct a y = 0) : isB a.p a.r a.m a.c a.n a.q = true ∧ prodB a.p (W (a.r * a.m)) (W (a.m * a.c)) (W (a.r * a.c)) y = true ∧ ¬ a.n = 30 := by
  unfold codeAddProduct at h
  cases hB : isB a.p a.r a.m a.c a.n a.q with
  | false => simp [hB] at h
  | true =>
    cases hP : prodB a.p (W (a.r * a.m)) (W (a.m * a.c)) (W (a.r * a.c)) y with
    | false => simp [hB, hP] at h
    | true =>
      by_cases h30 : a.n = 30
      · simp only [hB, hP, Bool.and_self, cond_true] at h
        simp [h30] at h
      · exact ⟨rfl, rfl, h30⟩
theorem mAddProduct_fact {x : Sch} {y : Nat → Int} (h : codeAddProduct x y = 0) : (resAddProduct x y).n ≤ 1048576 := by
  obtain ⟨h1, _⟩ := codeAdd0 h
  obtain ⟨_, _, _, _, h5, _⟩ := isB_sizes h1
  show x.n + 1 ≤ 1048576
  omega
theorem add_told {f : Nat} {nn : Bool} {l : List Ent} (hl : ∀ e ∈ l, EntOk e) (hf : tabOf l [] f = none)
    (herr : ∀ (p r k c : Int) (n : Nat) (q : Nat → Nat → Int) (y : Nat → Int), codeAddProduct ⟨p, r, k, c, n, q⟩ y ≠ 0 → fnK Try.prog (kc (tabOf l)) 40 (rnd [] 40 0) f [.agg [I p, I r, I k, I c, .vi .u8 27 n q], .agg (cellsI .u8 27 y)] done = some (.tup [.agg [I 0, I 0, I 0, I 0, .nilsl], I (codeAddProduct ⟨p, r, k, c, n, q⟩ y)], [], true))
    (hok : ∀ (p r k c : Int) (n : Nat) (q : Nat → Nat → Int) (y : Nat → Int), codeAddProduct ⟨p, r, k, c, n, q⟩ y = 0 → (nn = true → nnB n q = true) → ∃ q', fnK Try.prog (kc (tabOf l)) 40 (rnd [] 40 0) f [.agg [I p, I r, I k, I c, .vi .u8 27 n q], .agg (cellsI .u8 27 y)] done = some (.tup [.agg [I p, I r, I k, I c, .sl 0 0 (n + 1) (n + 1)], I 0], [⟨tProduct, 27, .ints .u8 27 (n + 1) q'⟩], true) ∧ ∀ a c, a < n + 1 → c < 27 → addQ1 n q y a c = q' a c) :
    CEntOk (f, g_add nn) := by
  intro vs a h hv
  unfold g_add at h
  simp only at h
  split at h
  · rename_i x z
    simp only [Option.bind_eq_some_iff, Option.map_eq_some_iff] at h
    obtain ⟨s, hs, y, hy, rfl⟩ := h
    rw [prod27_eq hy]
    obtain ⟨p, r, k, c, z, w, rfl, hw, rfl⟩ := sch_eq hs
    obtain ⟨n, q⟩ := w
    have hw := weak_cons (weak_sch (p := p) (r := r) (k := k) (c := c) hw) (same_weak (vs := [.agg (cellsI .u8 27 y)]))
    have tr {v : AV} {new new' : List KB} := told_run (l := l) (cl := []) (ml := []) (n := 40) (m := rnd [] 40 0) (f := f) (vs := [.agg [I p, I r, I k, I c, z], .agg (cellsI .u8 27 y)]) (vs' := [.agg [I p, I r, I k, I c, .vi .u8 27 n q], .agg (cellsI .u8 27 y)]) (v := v) (new := new) (new' := new') hl none_cok none_mok rfl hw rfl hf rfl
    refine sAns_told hv (fun h0 => tr (herr p r k c n q y h0) rfl rfl cleanB_nil) (fun _ _ h => by cases h) (fun h0 hg _ => ?_)
    obtain ⟨q', hr, hq⟩ := hok p r k c n q y h0 (fun hn => by subst hn; simpa using hg)
    exact tr hr (abs_ints hq) rfl (cleanB_ints _ _ _ _ _ _)
  · cases h
theorem nth27f (y : Nat → Int) {c : Nat} (h : c < 27) : nthI (intsFrom y 0 27) c = y c := nth0 y h
theorem ce_specAddProduct_ok : CEntOk ce_specAddProduct := by
  refine add_told (l := [e_l01Is, e_l01Product]) (by simp [l01Is_ok, l01Product_ok]) rfl ?_ ?_
  · intro p r k c n q y h0
    refine (sspecAddProduct p r k c n q y 0).trans ?_
    have e : prodB p (W (r * k)) (W (k * c)) (W (r * c)) (nthI (intsFrom y 0 27)) = prodB p (W (r * k)) (W (k * c)) (W (r * c)) y := rfl
    rw [e]
    unfold codeAddProduct at h0 ⊢
    simp only at h0 ⊢
    cases hB : isB p r k c n q <;> cases hP : prodB p (W (r * k)) (W (k * c)) (W (r * c)) y <;> simp [hB, hP] at h0 ⊢
    have h1 : ((n : Int) = 30) := by
      by_cases h : n = 30
      · omega
      · simp [h] at h0
    have h2 : n = 30 := by omega
    simp [h2]
  · intro p r k c n q y h0 _
    obtain ⟨hB, hP, h30⟩ := codeAdd0 h0
    simp only at hB hP h30
    obtain ⟨_, _, _, _, h5, _⟩ := isB_sizes hB
    have e : prodB p (W (r * k)) (W (k * c)) (W (r * c)) (nthI (intsFrom y 0 27)) = true := hP
    have e1 : ¬ (n : Int) = 30 := by omega
    have e2 : n ≤ 4294967296 := by omega
    have e3 : n + 1 ≤ 4294967296 := by omega
    refine ⟨?q1, (sspecAddProduct p r k c n q y 0).trans ?h1, ?h2⟩
    case h1 =>
      simp only [hB, e, e1, e2, e3, Nat.zero_add, beq_self_eq_true, decide_true, decide_false, Bool.not_true, cond_false, cond_true, chk]
      exact rfl
    case h2 =>
      intro a c ha hc
      simp only [addQ1, nth27f y hc, Nat.sub_zero]
theorem ce_implAddProduct_ok : CEntOk ce_implAddProduct := by
  refine add_told (l := [e_IsScheme, e_isProduct]) (by simp [IsScheme_ok, isProduct_ok]) rfl ?_ ?_
  · intro p r k c n q y h0
    refine (simplAddProduct p r k c n q y 0).trans ?_
    have e : prodB p (W (r * k)) (W (k * c)) (W (r * c)) (nthI (intsFrom y 0 27)) = prodB p (W (r * k)) (W (k * c)) (W (r * c)) y := rfl
    rw [e]
    unfold codeAddProduct at h0 ⊢
    simp only at h0 ⊢
    cases hB : isB p r k c n q <;> cases hP : prodB p (W (r * k)) (W (k * c)) (W (r * c)) y <;> simp [hB, hP] at h0 ⊢
    have h1 : ((n : Int) = 30) := by
      by_cases h : n = 30
      · omega
      · simp [h] at h0
    have h2 : n = 30 := by omega
    simp [h2]
  · intro p r k c n q y h0 hnn
    obtain ⟨hB, hP, h30⟩ := codeAdd0 h0
    simp only at hB hP h30
    obtain ⟨_, _, _, _, h5, _⟩ := isB_sizes hB
    have e : prodB p (W (r * k)) (W (k * c)) (W (r * c)) (nthI (intsFrom y 0 27)) = true := hP
    have e0 := nnB_not (hnn rfl)
    have e1 : ¬ (n : Int) = 30 := by omega
    have e2 : n ≤ 4294967296 := by omega
    have e3 : n + 1 ≤ 4294967296 := by omega
    refine ⟨?q1, (simplAddProduct p r k c n q y 0).trans ?h1, ?h2⟩
    case h1 =>
      rw [show decide (n = 0 ∧ Not (q 0 0 = 0)) = false from decide_eq_false e0]
      simp only [hB, e, e1, e2, e3, Nat.zero_add, beq_self_eq_true, decide_true, decide_false, Bool.not_true, cond_false, cond_true, chk, chkn]
      exact rfl
    case h2 =>
      intro a c ha hc
      simp only [addQ1, nth27f y hc, Nat.sub_zero]
end Go.Proofs.Ytjdciikfbinchaa.Fn
