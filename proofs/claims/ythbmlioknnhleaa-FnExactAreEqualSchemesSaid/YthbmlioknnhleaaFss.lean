/- What is told of the sorting of schemes is so. -/
import Derived.Test.YthbmlioknnhleaaFg
import Derived.Test.YthbmlioknnhleaaFsf
import Derived.Test.YthbmlioknnhleaaDss
import Derived.Test.YthbmlioknnhleaaEsorted
import Derived.Test.YthbmlioknnhleaaEss
namespace Go.Proofs.Ythbmlioknnhleaa.Fn
open Go Go.Proofs.Ythbmlioknnhleaa.Abs
set_option maxRecDepth 100000
set_option linter.unusedVariables false
set_option linter.unusedSimpArgs false
theorem posL_congr {q q' : Nat → Nat → Int} {i : Nat} : ∀ (L : List Nat), (∀ j ∈ L, lessP (q i) (q j) = lessP (q' i) (q' j)) → posL q i L = posL q' i L
  | [], _ => rfl
  | a :: L, h => by simp only [posL]; rw [h a (by simp), posL_congr L fun j hj => h j (by simp [hj])]
theorem sortL_lt (q : Nat → Nat → Int) (n : Nat) : ∀ j ∈ sortL q n, j < n := fun j hj => List.mem_range.1 ((sortL_perm q n).mem_iff.1 hj)
theorem sortL_congr {q q' : Nat → Nat → Int} : ∀ (n : Nat), (∀ i c, i < n → c < 27 → q i c = q' i c) → sortL q n = sortL q' n
  | 0, _ => rfl
  | n + 1, h => by
    have e := sortL_congr n fun i c hi hc => h i c (by omega) hc
    show insL q n (sortL q n) = insL q' n (sortL q' n)
    rw [← e]
    have : posL q n (sortL q n) = posL q' n (sortL q n) := posL_congr _ fun j hj => lessP_congr (fun c hc => h n c (by omega) hc) (fun c hc => h j c (by have := sortL_lt q n j hj; omega) hc)
    unfold insL
    rw [this]
theorem getD_lt (q : Nat → Nat → Int) {n a : Nat} (h : a < n) : (sortL q n).getD a 0 < n := by
  apply sortL_lt q n
  rw [List.getD_eq_getElem?_getD, List.getElem?_eq_getElem (by rw [sortL_len]; exact h)]
  exact List.getElem_mem _
theorem sortQ_congr {q q' : Nat → Nat → Int} {n : Nat} (h : ∀ i c, i < n → c < 27 → q i c = q' i c) {a c : Nat} (ha : a < n) (hc : c < 27) : sortQ n q a c = sortQ n q' a c := by
  unfold sortQ
  rw [sortL_congr n h]
  exact h _ c (getD_lt q' ha) hc
theorem sorted_run (p r k c : Int) (n : Nat) (q : Nat → Nat → Int) (hnn : nnB n q = true) (hn : n ≤ 30) : ∃ q', fnK Try.prog (kc (tabOf []) (mtabOf [m_sort])) 40 (rnd [] 40 0) 70 [.agg [I p, I r, I k, I c, .vi .u8 27 n q]] done = some (.agg [I p, I r, I k, I c, .sl 0 0 n n], [⟨tProduct, 27, .ints .u8 27 n q'⟩], true) ∧ ∀ a c, a < n → c < 27 → sortQ n q a c = q' a c := by
  refine ⟨?q1, (ssorted p r k c n q 0).trans ?h1, ?h2⟩
  case h1 =>
    have e2 : n ≤ 4294967296 := by omega
    have e3 : n < 4611686018427387904 := by omega
    rw [show decide (n = 0 ∧ Not (q 0 0 = 0)) = false from decide_eq_false (nnB_not hnn)]
    simp only [e2, e3, Nat.zero_add, beq_self_eq_true, decide_true, decide_false, Bool.and_self, cond_false, cond_true, chk, chkn]
    exact rfl
  case h2 =>
    intro a c ha hc
    refine sortQ_congr (fun i j hi hj => ?_) ha hc
    simp [canonI, hi, hj]
theorem sorted_ok : EntOk e_sorted := by
  intro vs v new h
  unfold e_sorted at h
  simp only at h
  split at h
  · rename_i p r k c x
    simp only [Option.map_eq_some_iff, Prod.mk.injEq, Bool.and_eq_true, decide_eq_true_eq] at h
    obtain ⟨y, hy, ⟨h0, h1⟩, rfl, rfl⟩ := h
    obtain ⟨q', hr, hq⟩ := sorted_run p r k c y.1 y.2 h0 h1
    exact told_run (l := []) (cl := []) (ml := [m_sort]) (vs' := [.agg [I p, I r, I k, I c, .vi .u8 27 y.1 y.2]]) none_ok none_cok (by simp [sort_mok]) rfl (weak_cons (weak_sch hy) weak_nil) rfl rfl rfl hr (abs_ints hq) rfl (cleanB_ints _ _ _ _ _ _)
  · cases h
theorem codeSort0 {a : Sch} (h : codeSortScheme a = 0) : isB a.p a.r a.m a.c a.n a.q = true := by
  unfold codeSortScheme at h
  cases hB : isB a.p a.r a.m a.c a.n a.q with
  | false => simp [hB] at h
  | true => rfl
theorem mSortScheme_fact {x : Sch} (h : codeSortScheme x = 0) : (resSortScheme x).n ≤ 1048576 := by
  obtain ⟨_, _, _, _, h5, _⟩ := isB_sizes (codeSort0 h)
  show x.n ≤ 1048576
  omega
theorem sorts_told {f : Nat} {nn : Bool} {l : List Ent} (hl : ∀ e ∈ l, EntOk e) (hf : tabOf l [] f = none)
    (h : ∀ (p r k c : Int) (n : Nat) (q : Nat → Nat → Int), fnK Try.prog (kc (tabOf l)) 40 (rnd [] 40 0) f [.agg [I p, I r, I k, I c, .vi .u8 27 n q]] done =
      bif !(isB p r k c n q) then some (.tup [.agg [I 0, I 0, I 0, I 0, .nilsl], I 1], [], true) else chk ((!nn || nnB n q) && decide (n ≤ 30)) (some (.tup [.agg [I p, I r, I k, I c, .sl 0 0 n n], I 0], [⟨tProduct, 27, .ints .u8 27 n (sortQ n q)⟩], true))) :
    CEntOk (f, g_sorts nn) := by
  intro vs a h1 hv
  unfold g_sorts at h1
  simp only at h1
  split at h1
  · rename_i x
    simp only [Option.map_eq_some_iff] at h1
    obtain ⟨s, hs, rfl⟩ := h1
    obtain ⟨p, r, k, c, z, w, rfl, hw, rfl⟩ := sch_eq hs
    obtain ⟨n, q⟩ := w
    have hw := weak_cons (weak_sch (p := p) (r := r) (k := k) (c := c) hw) weak_nil
    have tr {v : AV} {new new' : List KB} := told_run (l := l) (cl := []) (ml := []) (n := 40) (m := rnd [] 40 0) (f := f) (vs := [.agg [I p, I r, I k, I c, z]]) (vs' := [.agg [I p, I r, I k, I c, .vi .u8 27 n q]]) (v := v) (new := new) (new' := new') hl none_cok none_mok rfl hw rfl hf rfl
    refine sAns_told hv (fun h0 => tr ((h p r k c n q).trans ?_) rfl rfl cleanB_nil) (fun _ _ h => by cases h) (fun h0 hg _ => ?_)
    · unfold codeSortScheme at h0 ⊢
      simp only at h0 ⊢
      cases hB : isB p r k c n q with
      | true => rw [hB] at h0; exact absurd rfl h0
      | false => rfl
    · have hB := codeSort0 h0
      simp only at hB
      obtain ⟨_, _, _, _, h5, _⟩ := isB_sizes hB
      refine tr ((h p r k c n q).trans ?_) rfl rfl (cleanB_ints _ _ _ _ _ _)
      have hc : ((!nn || nnB n q) && decide (n ≤ 30)) = true := by
        have hg' : (!nn || nnB n q) = true := hg
        simp only [Bool.and_eq_true, decide_eq_true_eq]
        exact ⟨hg', h5⟩
      rw [hB, hc]
      rfl
  · cases h1
theorem ce_specSortScheme_ok : CEntOk ce_specSortScheme := sorts_told (nn := false) (l := [e_l01Is, e_l01Sorted]) (by simp [l01Is_ok, l01Sorted_ok]) rfl fun p r k c n q => sspecSortScheme p r k c n q 0
theorem ce_implSortScheme_ok : CEntOk ce_implSortScheme := sorts_told (nn := true) (l := [e_IsScheme, e_sorted]) (by simp [IsScheme_ok, sorted_ok]) rfl fun p r k c n q => simplSortScheme p r k c n q 0
end Go.Proofs.Ythbmlioknnhleaa.Fn
