/- What is told of NormalProducts is so. -/
import Derived.Test.YthbmlioknnhleaaFmap
import Derived.Test.YthbmlioknnhleaaDnmb
import Derived.Test.YthbmlioknnhleaaEnms
namespace Go.Proofs.Ythbmlioknnhleaa.Fn
open Go Go.Proofs.Ythbmlioknnhleaa.Abs
set_option maxRecDepth 100000
set_option linter.unusedSimpArgs false
set_option linter.unusedSectionVars false
set_option linter.unusedVariables false
theorem okNs_parts {p : Int} {n : Nat} {q : Nat → Nat → Int} (h : okNs p n q = true) : n ≤ 30 ∧ ∀ i, i < n → okN p (q i) = true := by
  unfold okNs at h
  simp only [Bool.and_eq_true, decide_eq_true_eq] at h
  exact ⟨h.1, fun i hi => (allN_iff _ n 0).1 h.2 i (by omega) (by omega)⟩
abbrev nrmG (p : Int) (q : Nat → Nat → Int) (i : Nat) : Nat → Int := nthI (intsFrom (normF p (nthI (intsFrom (q i) 0 27))) 0 27)
theorem nrmG_eq (p : Int) (q : Nat → Nat → Int) (i c : Nat) (hc : c < 27) : normF p (q i) c = nrmG p q i c := by
  show _ = nthI (intsFrom (normF p (nthI (intsFrom (q i) 0 27))) 0 27) c
  rw [nth0 _ hc]
  rfl
section
variable (p r k c : Int) (n : Nat) (q : Nat → Nat → Int) (h : okNs p n q = true)
include h
theorem normals_run (N m : Nat) : Gives (.agg [I p, I r, I k, I c, .sl 0 0 n n]) n (nrmG p q) (Lnormals_3 p r k c n q N (m + n + 1) 0 0 (nthR [])) := by
  obtain ⟨hn, hk⟩ := okNs_parts h
  have := map_loop (F := fun m x ny qh => Lnormals_3 p r k c n q N m ny x qh) (n := n) (v := fun ny => .agg [I p, I r, I k, I c, .sl 0 0 ny ny]) (g := nrmG p q) (fun m qh => by
    show Lnormals_3 p r k c n q N (m + 1) n (n : Int) qh = _
    rw [rnormals_3, bifF (decide_eq_false (Int.lt_irrefl _))]
    rfl) (fun i m qh hi => by
    show Lnormals_3 p r k c n q N (m + 1) i (i : Int) qh = Lnormals_3 p r k c n q N m (i + 1) ((i + 1 : Nat) : Int) _
    have ho : okN p (nthI (intsFrom (q i) 0 27)) = true := hk i hi
    rw [rnormals_3, toN, W_succ (show i < 1099511627776 by omega), bifT (decide_eq_true (by omega)), chkd ⟨by omega, by omega⟩, chkb ho, chkbeq, chkd (by omega), chkd rfl]) n 0 m (nthR []) (by omega) (fun a c h => by omega)
  exact this
theorem l03AllNormal_run (N m : Nat) : Gives (.agg [I p, I r, I k, I c, .sl 0 0 n n]) n (nrmG p q) (Ll03AllNormal_3 p r k c n q N (m + n + 1) 0 0 (nthR [])) := by
  obtain ⟨hn, hk⟩ := okNs_parts h
  have := map_loop (F := fun m x ny qh => Ll03AllNormal_3 p r k c n q N m x ny qh) (n := n) (v := fun ny => .agg [I p, I r, I k, I c, .sl 0 0 ny ny]) (g := nrmG p q) (fun m qh => by
    show Ll03AllNormal_3 p r k c n q N (m + 1) (n : Int) n qh = _
    rw [rl03AllNormal_3, bifF (decide_eq_false (Int.lt_irrefl _))]
    rfl) (fun i m qh hi => by
    show Ll03AllNormal_3 p r k c n q N (m + 1) (i : Int) i qh = Ll03AllNormal_3 p r k c n q N m ((i + 1 : Nat) : Int) (i + 1) _
    have ho : okN p (nthI (intsFrom (q i) 0 27)) = true := hk i hi
    rw [rl03AllNormal_3, toN, W_succ (show i < 1099511627776 by omega), bifT (decide_eq_true (by omega)), chkd ⟨by omega, by omega⟩, chkb ho, chkbeq, chkd (by omega), chkd rfl]) n 0 m (nthR []) (by omega) (fun a c h => by omega)
  exact this
end
theorem normals_ok' {f : Nat} {l : List Ent} (hl : ∀ e ∈ l, EntOk e) (hf : tabOf l [] f = none) (h : ∀ (p r k c : Int) (n : Nat) (q : Nat → Nat → Int), okNs p n q = true → Gives (.agg [I p, I r, I k, I c, .sl 0 0 n n]) n (nrmG p q) (fnK Try.prog (kc (tabOf l)) 40 (rnd [] 40 (n + 1)) f [.agg [I p, I r, I k, I c, .vi .u8 27 n q]] done)) : EntOk (f, g_normals) := by
  intro vs v new hv
  unfold g_normals at hv
  simp only at hv
  split at hv
  · simp only [Option.map_eq_some_iff, Prod.mk.injEq] at hv
    obtain ⟨s, hs, h1, rfl, rfl⟩ := hv
    obtain ⟨p, r, k, c, z, y, rfl, hy, rfl⟩ := sch_eq hs
    obtain ⟨q', hr, hq⟩ := h p r k c y.1 y.2 h1
    rw [abs_ints (q' := q') fun i j hi hj => (nrmG_eq p y.2 i j hj).trans (hq i j hi hj)]
    exact ent_run (vs' := [.agg [I p, I r, I k, I c, .vi .u8 27 y.1 y.2]]) hl rfl (weak_cons (weak_sch hy) weak_nil) rfl hf hr rfl (cleanB_ints _ _ _ _ _ _)
  · cases hv
theorem normals_ok : EntOk e_normals := normals_ok' (l := [e_normal]) (by simp [normal_ok]) rfl fun p r k c n q h => by
  have := normals_run p r k c n q h (n + 1) 0
  rw [show 0 + n + 1 = n + 1 by omega] at this
  rw [snormals]
  exact this
theorem l03AllNormal_ok : EntOk e_l03AllNormal := normals_ok' (l := [e_l03Normal]) (by simp [l03Normal_ok]) rfl fun p r k c n q h => by
  have := l03AllNormal_run p r k c n q h (n + 1) 0
  rw [show 0 + n + 1 = n + 1 by omega] at this
  rw [sl03AllNormal]
  exact this
/-- the products of a scheme can be made normal -/
theorem okNs_of {p r k c : Int} {n : Nat} {q : Nat → Nat → Int} (hB : isB p r k c n q = true) (hr : rngB n q = true) : okNs p n q = true := by
  obtain ⟨h1, _, _, _, h5, h6⟩ := isB_sizes hB
  have hp : primeB p = true := by unfold primeB; rcases h1 with rfl | rfl | rfl <;> rfl
  unfold okNs
  simp only [Bool.and_eq_true, decide_eq_true_eq, allN_iff]
  refine ⟨h5, fun i _ hi => ?_⟩
  have hP := (allN_iff _ n 0).1 h6 i (by omega) hi
  have hi' : i < n := by omega
  unfold prodB at hP
  simp only [Bool.and_eq_true, Bool.not_eq_true', Bool.or_eq_false_iff] at hP
  obtain ⟨⟨f1, f2, f3⟩, z1, z2, z3⟩ := hP
  have below {m : Int} {f : Nat → Int} (hf : formB p m f = true) (hb : ∀ j, j < 9 → 0 ≤ f j ∧ f j ≤ 255) : ∀ j, j < 9 → 0 ≤ f j ∧ f j < p := fun j hj => by
    have := (allN_iff _ 9 0).1 hf j (by omega) (by omega)
    unfold okAt at this
    have hw : W (f j) = f j := W_of (by have := hb j hj; omega) (by have := hb j hj; omega)
    rw [hw] at this
    simp only [Bool.not_eq_true', Bool.or_eq_false_iff, decide_eq_false_iff_not] at this
    have := hb j hj
    omega
  have bA := below f1 fun j hj => rngB_iff.1 hr i j hi' (by omega)
  have bB := below f2 fun j hj => rngB_iff.1 hr i (9 + j) hi' (by omega)
  have bC := below f3 fun j hj => rngB_iff.1 hr i (18 + j) hi' (by omega)
  have eA : zero9 (pA (q i)) = false := (zero9_congr fun j hj => pA_get (q i) hj).trans z1
  have eB : zero9 (pB (q i)) = false := (zero9_congr fun j hj => pB_get (q i) hj).trans z2
  unfold okN
  simp only [hp, eA, eB, Bool.not_false, Bool.and_true, Bool.true_and, Bool.and_eq_true]
  exact ⟨mod9_iff.2 fun j hj => by rw [pA_get _ hj]; exact bA j hj, mod9_iff.2 fun j hj => by rw [pB_get _ hj]; exact bB j hj, mod9_iff.2 fun j hj => by rw [pC_get _ hj]; exact bC j hj⟩
end Go.Proofs.Ythbmlioknnhleaa.Fn
