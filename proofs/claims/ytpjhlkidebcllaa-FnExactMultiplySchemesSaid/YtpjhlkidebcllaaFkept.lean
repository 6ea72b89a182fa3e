/- What is told of kept products and of marks with room is so. -/
import Derived.Test.YtpjhlkidebcllaaFg
import Derived.Test.YtpjhlkidebcllaaDkept
import Derived.Test.YtpjhlkidebcllaaEkh
import Derived.Test.YtpjhlkidebcllaaEki
import Derived.Test.YtpjhlkidebcllaaEkm
import Derived.Test.YtpjhlkidebcllaaEkeptb
import Derived.Test.YtpjhlkidebcllaaEkd
import Derived.Test.YtpjhlkidebcllaaEkk
namespace Go.Proofs.Ytpjhlkidebcllaa.Fn
open Go Go.Proofs.Ytpjhlkidebcllaa.Abs
set_option maxRecDepth 100000
set_option linter.unusedSimpArgs false
theorem markProductC_loop (n t : Nat) (q : Nat → Nat → Int) (s : Int) (hs : 0 ≤ s ∧ s ≤ 1099511627776) (hn : n ≤ t) (ht : t ≤ 1048576) (N : Nat) : ∀ (d i m : Nat) (q1 : Nat → Nat → Int) (cl : Bool), i + d = n → (cl = true → i = 0) → (∀ a c, c < 27 → q1 a c = bif decide (a < i) then markQ s a c else q a c) →
    ∃ q', LmarkProductC_2 n t q s N (m + d + 1) (s + 27 * i) (i : Int) q1 cl = some (I (s + 27 * n), [⟨tProduct, 27, .ints .u8 27 t q'⟩], true) ∧ ∀ a c, c < 27 → q' a c = bif decide (a < n) then markQ s a c else q a c
  | 0, i, m, q1, cl, h, hc, hq => by
    have h1 : ¬ ((i : Int) < (n : Int)) := by omega
    obtain rfl : i = n := by omega
    rw [rmarkProductC_2]
    simp only [h1, decide_false, cond_false, beq_self_eq_true, chk, cond_true]
    cases cl with
    | true =>
      obtain rfl : i = 0 := hc rfl
      exact ⟨q, rfl, fun a c hc => by simp⟩
    | false => exact ⟨q1, rfl, fun a c hc => hq a c hc⟩
  | d + 1, i, m, q1, cl, h, hc, hq => by
    have h1 : (i : Int) < (n : Int) := by omega
    have hi : i < n := by omega
    have hit : i < t := by omega
    have h0 : (0 : Int) ≤ (i : Int) := by omega
    have up : ∀ c : Int, 0 ≤ c → c ≤ 30 → W (s + 27 * (i : Int) + c + 1) = s + 27 * (i : Int) + (c + 1) := fun c c0 c1 => W_up c (by omega) (by omega)
    have e1 : W (s + 27 * (i : Int) + 1) = s + 27 * (i : Int) + 1 := by have := up 0 (by omega) (by omega); simpa using this
    rw [show m + (d + 1) + 1 = (m + d + 1) + 1 by omega, rmarkProductC_2]
    simp only [h1, h0, hi, hit, hn, toN, Nat.zero_add, Nat.le_refl, beq_self_eq_true, and_self, chk, decide_true, cond_true, W_succ (show i < 1099511627776 by omega), e1, up 1 (by omega) (by omega), up 2 (by omega) (by omega), up 3 (by omega) (by omega), up 4 (by omega) (by omega), up 5 (by omega) (by omega), up 6 (by omega) (by omega), up 7 (by omega) (by omega), up 8 (by omega) (by omega), up 9 (by omega) (by omega), up 10 (by omega) (by omega), up 11 (by omega) (by omega), up 12 (by omega) (by omega), up 13 (by omega) (by omega), up 14 (by omega) (by omega), up 15 (by omega) (by omega), up 16 (by omega) (by omega), up 17 (by omega) (by omega), up 18 (by omega) (by omega), up 19 (by omega) (by omega), up 20 (by omega) (by omega), up 21 (by omega) (by omega), up 22 (by omega) (by omega), up 23 (by omega) (by omega), up 24 (by omega) (by omega), up 25 (by omega) (by omega), up 26 (by omega) (by omega), Int.reduceAdd]
    rw [show s + 27 * (i : Int) + 27 = s + 27 * ((i + 1 : Nat) : Int) by omega]
    refine markProductC_loop n t q s hs hn ht N d (i + 1) m _ _ (by omega) (by simp) ?_
    intro a c hc'
    by_cases hai : a = i
    · subst hai
      have e2 : a < a + 1 := by omega
      simp only [e2, decide_true, cond_true]
      exact mark27 s a q1 c hc'
    · have hf : (a == i) = false := by simp [hai]
      have e2 : decide (a < i + 1) = decide (a < i) := by
        by_cases h : a < i
        · simp [h]; omega
        · simp [h]; omega
      simp only [hf, Bool.and_false, cond_false, e2]
      exact hq a c hc'
theorem markProductC_ok : MEntOk m_markProductC := by
  intro vs b v b' h
  unfold m_markProductC at h
  simp only at h
  split at h
  · rename_i n t s
    simp only [Option.some.injEq, Prod.mk.injEq, Bool.and_eq_true, decide_eq_true_eq] at h
    obtain ⟨⟨h1, h2, h3, h4, h5, h6, h7, h8⟩, rfl, rfl⟩ := h
    obtain ⟨be, bsz, bk, bn, bq⟩ := b
    simp only at h1 h2 h3 h4 h5 h6
    subst h2 h3 h4 h5
    obtain ⟨q', hr, hq'⟩ := markProductC_loop n t bq s ⟨h7, h8⟩ h1 h6 (n + 1) n 0 0 bq true (by omega) (fun _ => rfl) (fun a c ha => by simp)
    have hr' : fnKH Try.prog (kc (tabOf [])) 40 (rnd [5, 10, 15] 12 (n + 1)) m_markProductC.1 [.sl 0 0 n t, I s] [KB.ofNB ⟨tProduct, 27, .u8, t, bq⟩] done = some (I (s + 27 * n), [KB.ofNB ⟨tProduct, 27, .u8, t, q'⟩], true) := by
      rw [show m_markProductC.1 = 58 from rfl, smarkProductC]
      have e0 : s + 27 * ((0 : Nat) : Int) = s := by simp
      rw [show (0 + n + 1) = n + 1 by omega, e0] at hr
      exact hr
    exact ⟨TellsM.cells (fnKH_mut mixed plain (tabOf_ok (l := []) (by simp)) (KMTOk.none _) rfl rfl hr') fun a c _ hc => hq' a c hc, rfl, rfl, rfl, rfl, Nat.le_refl _, rfl⟩
  · cases h
theorem markSchemeC_ok : MEntOk m_markSchemeC := by
  intro vs b v b' h
  unfold m_markSchemeC at h
  simp only at h
  split at h
  · rename_i p r k c n t s
    simp only [Option.some.injEq, Prod.mk.injEq, Bool.and_eq_true, decide_eq_true_eq] at h
    obtain ⟨⟨h1, h2, h3, h4, h5, h6, h7, h8⟩, rfl, rfl⟩ := h
    obtain ⟨be, bsz, bk, bn, bq⟩ := b
    simp only at h1 h2 h3 h4 h5 h6
    subst h2 h3 h4 h5
    have hr := smarkSchemeC p r k c n t bq s 0
    rw [chkb (by simp [h1, h6, h7, h8])] at hr
    exact ⟨TellsM.cells (fnKH_mut mixed plain (tabOf_ok (l := []) (by simp)) (mtabOf_ok (l := [m_markProductC]) (by simp [markProductC_ok])) rfl rfl hr) (fun a c ha hc => by
      have ha' : a < t := ha
      have hc' : c < 27 := hc
      by_cases h : a < n <;> simp [h, canonI, ha', hc']), rfl, rfl, rfl, rfl, Nat.le_refl _, rfl⟩
  · cases h
theorem kAns_told {f : Nat} {vs : List AV} {g : Bool} {code : Int} {s : Sch} {t : Nat} (hv : (kAns g code s t).val.1 = true)
    (herr : code ≠ 0 → Told f vs (.tup [.agg [I 0, I 0, I 0, I 0, .nilsl], I code]) [])
    (hok : code = 0 → g = true → Told f vs (.tup [.agg [I s.p, I s.r, I s.m, I s.c, .sl 0 0 s.n t], I 0]) [⟨tProduct, 27, .ints .u8 27 t (roomQ s.n s.q)⟩]) :
    Told f vs (kAns g code s t).val.2.1 (kAns g code s t).val.2.2 := by
  unfold kAns Ans.val at hv ⊢
  by_cases h0 : code = 0
  · subst h0
    simp only [decide_true, cond_true, cutA, Ans.val] at hv ⊢
    exact hok rfl hv
  · simp only [h0, decide_false, cond_false, errA, Ans.val]
    exact herr h0
theorem zero9_pA (f : Nat → Int) : zero9 (pA f) = zero9 f := rfl
theorem hasZero_ok : EntOk e_hasZero := by
  intro vs v new h
  unfold e_hasZero at h
  simp only at h
  split at h
  · simp only [Option.map_eq_some_iff, Prod.mk.injEq, true_and] at h
    obtain ⟨l, hl, rfl, rfl⟩ := h
    rw [u8s_eq hl]
    refine ent_run none_ok rfl same_weak rfl rfl ((shasZero (nthI l) 0).trans ?_) rfl cleanB_nil
    unfold nzF
    rw [zero9_pA]
    cases zero9 (nthI l) <;> cases zero9 (pB (nthI l)) <;> cases zero9 (pC (nthI l)) <;> rfl
  · cases h
theorem firstN_spec (b : Nat → Bool) : ∀ (d i : Nat), i ≤ firstN b i d ∧ firstN b i d ≤ i + d ∧ (∀ j, i ≤ j → j < firstN b i d → b j = false) ∧ (firstN b i d < i + d → b (firstN b i d) = true)
  | 0, i => ⟨Nat.le_refl _, Nat.le_refl _, fun j h1 h2 => by simp only [firstN] at h2; omega, fun h => by simp only [firstN] at h; omega⟩
  | d + 1, i => by
    obtain ⟨h1, h2, h3, h4⟩ := firstN_spec b d (i + 1)
    cases hb : b i with
    | true =>
      simp only [firstN, hb, cond_true]
      exact ⟨Nat.le_refl _, by omega, fun j h1 h2 => by omega, fun _ => trivial⟩
    | false =>
      simp only [firstN, hb, cond_false]
      refine ⟨by omega, by omega, fun j h5 h6 => ?_, fun h => h4 (by omega)⟩
      by_cases e : j = i
      · subst e; exact hb
      · exact h3 j (by omega) h6
theorem indexFunc_loop (n : Nat) (q : Nat → Nat → Int) (hn : n ≤ 60) (N : Nat) : ∀ (d i m : Nat), i + d = n → LindexFunc_2 n q N (m + d + 1) (i : Int) = some (bif decide (firstN (fun i => !nzF (q i)) i d = n) then I (-1) else I (firstN (fun i => !nzF (q i)) i d : Nat), [], true)
  | 0, i, m, h => by
    obtain rfl : i = n := by omega
    rw [rindexFunc_2, bifF (decide_eq_false (Int.lt_irrefl _))]
    simp only [firstN, decide_true, cond_true]
  | d + 1, i, m, h => by
    have ih := indexFunc_loop n q hn N d (i + 1) m (by omega)
    rw [show m + (d + 1) + 1 = (m + d + 1) + 1 by omega, rindexFunc_2, toN, W_succ (show i < 1099511627776 by omega), bifT (decide_eq_true (by omega)), chkd ⟨by omega, by omega⟩, ih]
    have e : nzF (nthI (intsFrom (q i) 0 27)) = nzF (q i) := rfl
    rw [e]
    cases hb : nzF (q i) with
    | true =>
      simp only [firstN, hb, Bool.not_true, cond_false]
    | false =>
      have : ¬ i = n := by omega
      simp only [firstN, hb, Bool.not_false, cond_true, this, decide_false, cond_false]
theorem ce_indexFunc_ok : CEntOk ce_indexFunc := by
  intro vs a h hv
  unfold ce_indexFunc at h
  simp only at h
  split at h
  · rename_i x f
    simp only [Option.bind_eq_some_iff] at h
    obtain ⟨y, hy, h⟩ := h
    obtain ⟨hf, h⟩ := bif_k h
    cases h
    simp only [decide_eq_true_eq] at hf
    subst hf
    have hw := weak_cons (prods_weak hy) (same_weak (vs := [.fn fnHasZero []]))
    have hl : y.1 ≤ 60 := by
      unfold Ans.val at hv
      by_cases e : zfirst y.1 y.2 = y.1
      · simpa [e, Ans.val] using hv
      · simpa [e, Ans.val] using hv
    have hr := indexFunc_loop y.1 y.2 hl (y.1 + 1) y.1 0 0 (by omega)
    rw [show 0 + y.1 + 1 = y.1 + 1 by omega] at hr
    have tr {v : AV} := told_run (l := [e_hasZero]) (cl := []) (ml := []) (n := 40) (m := rnd [] 40 (y.1 + 1)) (f := ce_indexFunc.1) (vs := [x, .fn fnHasZero []]) (vs' := [.vi .u8 27 y.1 y.2, .fn fnHasZero []]) (v := v) (new := []) (new' := []) (by simp [hasZero_ok]) none_cok none_mok rfl hw rfl rfl rfl
    unfold Ans.val
    by_cases e : zfirst y.1 y.2 = y.1
    · simp only [e, decide_true, cond_true, Ans.val]
      refine tr ((sindexFunc y.1 y.2 (y.1 + 1)).trans (hr.trans ?_)) rfl rfl cleanB_nil
      unfold zfirst at e
      simp only [e, decide_true, cond_true]
    · simp only [e, decide_false, cond_false, Ans.val]
      refine tr ((sindexFunc y.1 y.2 (y.1 + 1)).trans (hr.trans ?_)) rfl rfl cleanB_nil
      unfold zfirst at e ⊢
      simp only [e, decide_false, cond_false]
  · cases h
theorem l03Told_loop (p r k c : Int) (m0 : Nat) (y : Nat → Nat → Int) (n : Nat) (q : Nat → Nat → Int) (hn : n ≤ 1048576) (N : Nat) : ∀ (e i m : Nat) (L : List Nat) (qh : Nat → Nat → Int), i + e = n → L.length ≤ i → (∀ j c', j < L.length → c' < 27 → q (L.getD j 0) c' = qh j c') →
    Gives (.agg [I p, I r, I k, I c, .sl 0 0 (L ++ keepL (fun i => nzF (q i)) i e).length (L ++ keepL (fun i => nzF (q i)) i e).length]) (L ++ keepL (fun i => nzF (q i)) i e).length (fun a => q ((L ++ keepL (fun i => nzF (q i)) i e).getD a 0)) (Ll03Told_3 p r k c m0 y n q N (m + e + 1) (i : Int) L.length qh)
  | 0, i, m, L, qh, h, hL, hq => by
    have h1 : ¬ ((i : Int) < (n : Int)) := by omega
    rw [rl03Told_3]
    simp only [h1, decide_false, cond_false, keepL, List.append_nil]
    exact ⟨qh, rfl, hq⟩
  | e + 1, i, m, L, qh, h, hL, hq => by
    have h1 : (i : Int) < (n : Int) := by omega
    have h0 : (0 : Int) ≤ (i : Int) := by omega
    have hLl : L.length + 1 ≤ 4294967296 := by omega
    have ih := l03Told_loop p r k c m0 y n q hn N e (i + 1) m
    rw [show m + (e + 1) + 1 = (m + e + 1) + 1 by omega, rl03Told_3]
    rw [bifT (decide_eq_true h1), chkd ⟨h0, h1⟩]
    simp only [toN, W_succ (show i < 1099511627776 by omega), filt_tree2, chkbeq, chkd hLl, decide_true, chk_true]
    cases hB : nzF (q i) with
    | false =>
      have e1 : keepL (fun i => nzF (q i)) i (e + 1) = keepL (fun i => nzF (q i)) (i + 1) e := by simp only [keepL, hB, cond_false]
      have hB' : nzF (q i) = false := hB
      rw [nzF, zero9_pA] at hB'
      rw [e1]
      rw [hB', cond_false]
      exact ih L qh (by omega) (by omega) hq
    | true =>
      have e1 : L ++ keepL (fun i => nzF (q i)) i (e + 1) = (L ++ [i]) ++ keepL (fun i => nzF (q i)) (i + 1) e := by simp only [keepL, hB, cond_true, List.append_assoc, List.singleton_append]
      have hB' : nzF (q i) = true := hB
      rw [nzF, zero9_pA] at hB'
      rw [e1]
      rw [hB', cond_true]
      have := ih (L ++ [i]) (fun a1 c1 => bif decide (a1 < L.length) then qh a1 c1 else nthI (intsFrom (q i) 0 27) c1) (by omega) (by simp; omega) (fun j c' hj hc' => by
        rw [getD_app hj]
        by_cases hj' : j < L.length
        · simp only [hj', if_true, decide_true, cond_true]; exact hq j c' hj' hc'
        · simp only [hj', if_false, decide_false, cond_false, nth0 (q i) hc'])
      rw [show (L ++ [i]).length = L.length + 1 by simp] at this
      exact this
theorem l03Told_ok : EntOk e_l03Told := by
  intro vs v new hv
  unfold e_l03Told at hv
  simp only at hv
  split at hv
  · rename_i p r k c x z
    simp only [Option.bind_eq_some_iff, Option.map_eq_some_iff, Prod.mk.injEq, decide_eq_true_eq] at hv
    obtain ⟨y, hy, w, hw, h1, rfl, rfl⟩ := hv
    obtain ⟨q', hr, hq⟩ : Gives (.agg [I p, I r, I k, I c, .sl 0 0 (nzL w.1 w.2).length (nzL w.1 w.2).length]) (nzL w.1 w.2).length (keptQ w.1 w.2) (Ll03Told_3 p r k c y.1 y.2 w.1 w.2 (w.1 + 1) (0 + w.1 + 1) ((0 : Nat) : Int) 0 (nthR [])) := l03Told_loop p r k c y.1 y.2 w.1 w.2 h1 (w.1 + 1) w.1 0 0 [] (nthR []) (by omega) (by simp) (fun j c' h => by simp at h)
    rw [show 0 + w.1 + 1 = w.1 + 1 by omega] at hr
    rw [abs_ints (q' := q') hq]
    exact ent_run (l := []) (vs' := [.agg [I p, I r, I k, I c, .vi .u8 27 y.1 y.2], .vi .u8 27 w.1 w.2]) none_ok rfl (weak_cons (weak_sch hy) (weak_cons (prods_weak hw) weak_nil)) rfl rfl ((sl03Told p r k c y.1 y.2 w.1 w.2 (w.1 + 1)).trans hr) rfl (cleanB_ints _ _ _ _ _ _)
  · cases hv
theorem nzF_congr {x y : Nat → Int} (h : ∀ c, c < 27 → x c = y c) : nzF x = nzF y := by
  unfold nzF
  rw [zero9_congr (F := pA x) (F' := pA y) fun j hj => by rw [pA_get _ hj, pA_get _ hj, h j (by omega)], zero9_congr (F := pB x) (F' := pB y) fun j hj => by rw [pB_get _ hj, pB_get _ hj, h (9 + j) (by omega)], zero9_congr (F := pC x) (F' := pC y) fun j hj => by rw [pC_get _ hj, pC_get _ hj, h (18 + j) (by omega)]]
theorem nzL_congr {n : Nat} {x y : Nat → Nat → Int} (h : ∀ a c, a < n → c < 27 → x a c = y a c) : nzL n x = nzL n y := keepL_congr n 0 fun j _ hj => nzF_congr fun c hc => h j c (by omega) hc
theorem nzL_lt {n : Nat} {x : Nat → Nat → Int} {a : Nat} (h : a < (nzL n x).length) : (nzL n x).getD a 0 < n := by
  have : (nzL n x).getD a 0 ∈ nzL n x := by
    rw [List.getD_eq_getElem?_getD, List.getElem?_eq_getElem h]
    exact List.getElem_mem h
  have := (keepL_mem n 0 this).2.1
  omega
theorem nzL_len (n : Nat) (x : Nat → Nat → Int) : (nzL n x).length ≤ n := keepL_len _ n 0
theorem firstN_congr {b b' : Nat → Bool} : ∀ (d i : Nat), (∀ j, i ≤ j → j < i + d → b j = b' j) → firstN b i d = firstN b' i d
  | 0, i, _ => rfl
  | d + 1, i, h => by
    simp only [firstN]
    rw [h i (Nat.le_refl _) (by omega), firstN_congr d (i + 1) fun j h1 h2 => h j (by omega) (by omega)]
theorem keepL_app (b : Nat → Bool) : ∀ (d e i : Nat), keepL b i (d + e) = keepL b i d ++ keepL b (i + d) e
  | 0, e, i => by simp [keepL]
  | d + 1, e, i => by
    rw [show d + 1 + e = (d + e) + 1 by omega]
    simp only [keepL]
    rw [keepL_app b d e (i + 1), show i + 1 + d = i + (d + 1) by omega]
    cases b i <;> simp
theorem canon_cells {n : Nat} (q : Nat → Nat → Int) {a c : Nat} (ha : a < n) (hc : c < 27) : canonI n 27 q a c = q a c := by simp [canonI, ha, hc]
theorem delFunc_loop (n : Nat) (q : Nat → Nat → Int) (hn : n ≤ 60) (N : Nat) : ∀ (d j m : Nat) (L : List Nat) (qh : Nat → Nat → Int) (cl : Bool), j + d = n → L.length ≤ j → (∀ a c, a < L.length → c < 27 → qh a c = q (L.getD a 0) c) → (∀ a c, j ≤ a → a < n → c < 27 → qh a c = q a c) →
    ∃ q', LdelFunc_5 n q N (m + d + 1) (L.length : Int) (j : Int) qh cl = some (.sl 0 0 (L ++ keepL (fun i => nzF (q i)) j d).length n, [⟨tProduct, 27, .ints .u8 27 n q'⟩], true) ∧ ∀ a c, a < n → c < 27 → roomQ (L ++ keepL (fun i => nzF (q i)) j d).length (fun a => q ((L ++ keepL (fun i => nzF (q i)) j d).getD a 0)) a c = q' a c
  | 0, j, m, L, qh, cl, h, hL, hq, hr => by
    obtain rfl : j = n := by omega
    have h3 : L.length + (j - L.length) ≤ j := by omega
    have h4 : (0 ≤ (L.length : Int)) ∧ (((L.length : Int) ≤ (j : Int)) ∧ (j : Int) ≤ (j : Int)) := by omega
    have h5 : (0 : Int) ≤ 0 ∧ ((0 ≤ (L.length : Int)) ∧ (L.length : Int) ≤ (j : Int)) := by omega
    rw [rdelFunc_5, chkbeq, bifF (decide_eq_false (Int.lt_irrefl _)), toN]
    simp only [Nat.zero_add, Nat.sub_zero, Nat.le_refl, h3, h4, h5, decide_true, chkbeq, chk_true, Bool.and_true, Bool.and_false, Bool.false_and, cond_false, keepL, List.append_nil]
    refine ⟨_, rfl, fun a c ha hc => ?_⟩
    unfold roomQ
    by_cases h' : a < L.length
    · have e1 : ¬ L.length ≤ a := by omega
      simp only [h', e1, decide_true, decide_false, Bool.false_and, cond_true, cond_false]
      exact (hq a c h' hc).symm
    · have e1 : L.length ≤ a := by omega
      have e2 : a < L.length + (j - L.length) := by omega
      simp only [h', e1, e2, decide_true, decide_false, Bool.and_self, cond_true, cond_false]
      rcases nth27 c hc with rfl | rfl | rfl | rfl | rfl | rfl | rfl | rfl | rfl | rfl | rfl | rfl | rfl | rfl | rfl | rfl | rfl | rfl | rfl | rfl | rfl | rfl | rfl | rfl | rfl | rfl | rfl <;> rfl
  | d + 1, j, m, L, qh, cl, h, hL, hq, hr => by
    have h1 : (j : Int) < (n : Int) := by omega
    have hj : j < n := by omega
    have hl : L.length < n := by omega
    have ih := delFunc_loop n q hn N d (j + 1) m
    have eN : nzF (nthI (intsFrom (qh j) 0 27)) = nzF (q j) := nzF_congr fun c hc => (nth0 (qh j) hc).trans (hr j c (Nat.le_refl _) hj hc)
    rw [show m + (d + 1) + 1 = (m + d + 1) + 1 by omega, rdelFunc_5, chkbeq, bifT (decide_eq_true h1), chkbeq, chkd ⟨by omega, h1⟩, toN, toN, Nat.zero_add, Nat.zero_add, Nat.zero_add, chkd (Nat.le_refl _), chkbeq, chkd hj, eN, W_succ (show j < 1099511627776 by omega), W_succ (show L.length < 1099511627776 by omega)]
    cases hB : nzF (q j) with
    | false =>
      have e1 : keepL (fun i => nzF (q i)) j (d + 1) = keepL (fun i => nzF (q i)) (j + 1) d := by simp only [keepL, hB, cond_false]
      rw [e1, bifF (show (!!false) = false from rfl)]
      exact ih L qh _ (by omega) (by omega) hq (fun a c h2 h3 h4 => hr a c (by omega) h3 h4)
    | true =>
      have e1 : L ++ keepL (fun i => nzF (q i)) j (d + 1) = (L ++ [j]) ++ keepL (fun i => nzF (q i)) (j + 1) d := by simp only [keepL, hB, cond_true, List.append_assoc, List.singleton_append]
      rw [e1, bifT (show (!!true) = true from rfl), chkbeq, chkd ⟨by omega, by omega⟩, chkd (Nat.le_refl _), chkbeq, chkd hl]
      have := ih (L ++ [j]) (fun a c => bif a == L.length then nthI (intsFrom (qh j) 0 27) c else qh a c)
      rw [show (L ++ [j]).length = L.length + 1 by simp] at this
      rw [show ((L ++ [j]) ++ keepL (fun i => nzF (q i)) (j + 1) d).length = (L ++ [j] ++ keepL (fun i => nzF (q i)) (j + 1) d).length from rfl]
      refine this _ (by omega) (by omega) (fun a c ha hc => ?_) (fun a c h2 h3 h4 => ?_)
      · rw [getD_app (by simp; exact ha)]
        by_cases h' : a < L.length
        · have e2 : (a == L.length) = false := by simp; omega
          simp only [h', if_true, e2, cond_false]
          exact hq a c h' hc
        · have e3 : a = L.length := by omega
          subst e3
          simp only [Nat.lt_irrefl, if_false, beq_self_eq_true, cond_true, nth0 (qh j) hc]
          exact hr j c (Nat.le_refl _) hj hc
      · have e2 : (a == L.length) = false := by simp; omega
        simp only [e2, cond_false]
        exact hr a c (by omega) h3 h4
theorem delFunc_run (n : Nat) (q : Nat → Nat → Int) (hn : n ≤ 60) : ∃ q', fnKH Try.prog (kc (tabOf [e_hasZero] [ce_indexFunc])) 40 (rnd [] 40 (n + 1)) 106 [.sl 0 0 n n, .fn fnHasZero []] [KB.ofNB ⟨tProduct, 27, .u8, n, q⟩] done = some (.sl 0 0 (nzL n q).length n, [⟨tProduct, 27, .ints .u8 27 n q'⟩], true) ∧ ∀ a c, a < n → c < 27 → roomQ (nzL n q).length (keptQ n q) a c = q' a c := by
  have ez : zfirst n (canonI n 27 q) = zfirst n q := firstN_congr n 0 fun j _ hj => by rw [nzF_congr (y := q j) fun c hc => canon_cells q (by omega) hc]
  rw [sdelFunc, chkbeq, Nat.zero_add, chkd (Nat.le_refl _), ez]
  obtain ⟨_, z2, z3, z4⟩ := firstN_spec (fun i => !nzF (q i)) n 0
  rw [show firstN (fun i => !nzF (q i)) 0 n = zfirst n q from rfl] at z2 z3 z4
  have hk : ∀ j, 0 ≤ j → j < 0 + zfirst n q → nzF (q j) = true := fun j _ hj => by
    have := z3 j (by omega) (by omega)
    simpa using this
  obtain ⟨k1, k2⟩ := keepL_all (b := fun i => nzF (q i)) (zfirst n q) 0 hk
  by_cases hz : zfirst n q = n
  · rw [bifT (decide_eq_true hz), chkd hn]
    rw [hz] at k1 k2
    have e : (nzL n q).length = n := k1
    rw [e]
    refine ⟨q, rfl, fun a c ha hc => ?_⟩
    unfold roomQ keptQ
    have e2 : (nzL n q).getD a 0 = a := (k2 a ha).trans (Nat.zero_add a)
    simp only [ha, decide_true, cond_true, e2]
  · rw [bifF (decide_eq_false hz), chkd hn, W_succ (show zfirst n q < 1099511627776 by omega)]
    have hb : nzF (q (zfirst n q)) = false := by
      have := z4 (by omega)
      simpa using this
    have es : nzL n q = keepL (fun i => nzF (q i)) 0 (zfirst n q) ++ keepL (fun i => nzF (q i)) (zfirst n q + 1) (n - zfirst n q - 1) := by
      unfold nzL
      rw [show n = zfirst n q + (1 + (n - zfirst n q - 1)) by omega, keepL_app, keepL_app, Nat.zero_add]
      rw [show zfirst n q + (1 + (n - zfirst n q - 1)) = n by omega]
      simp only [keepL, hb, cond_false, List.nil_append]
    have := delFunc_loop n q hn (n + 1) (n - zfirst n q - 1) (zfirst n q + 1) (zfirst n q + 1) (keepL (fun i => nzF (q i)) 0 (zfirst n q)) q true (by omega) (by omega) (fun a c ha hc => by rw [k2 a (by omega), Nat.zero_add]) (fun a c _ _ _ => rfl)
    rw [← es, k1, show zfirst n q + 1 + (n - zfirst n q - 1) + 1 = n + 1 by omega] at this
    exact this
theorem delFunc_ok : MEntOk m_delFunc := by
  intro vs b v b' h
  unfold m_delFunc at h
  simp only at h
  split at h
  · rename_i n t f
    obtain ⟨hf, h⟩ := bif_k h
    simp only [decide_eq_true_eq] at hf
    subst hf
    replace h := Option.some.inj h
    simp only [Prod.mk.injEq, Bool.and_eq_true, decide_eq_true_eq] at h
    obtain ⟨⟨h1, h2, h3, h4, h5, h6⟩, rfl, rfl⟩ := h
    obtain ⟨be, bsz, bk, bn, bq⟩ := b
    simp only at h1 h2 h3 h4 h5 h6
    subst h1 h3 h4 h5
    subst h2
    obtain ⟨q', hr, hq⟩ := delFunc_run t bq h6
    exact ⟨TellsM.cells (fnKH_mut mixed plain (tabOf_ok' (l := [e_hasZero]) (cl := [ce_indexFunc]) (by simp [hasZero_ok]) (by simp [ce_indexFunc_ok])) (KMTOk.none _) rfl rfl hr) fun a c ha hc => (hq a c ha hc).symm, rfl, rfl, rfl, rfl, Nat.le_refl _, rfl⟩
  · cases h
theorem kept_ok : MEntOk m_kept := by
  intro vs b v b' h
  unfold m_kept at h
  simp only at h
  split at h
  · rename_i n t
    simp only [Option.some.injEq, Prod.mk.injEq, Bool.and_eq_true, decide_eq_true_eq] at h
    obtain ⟨⟨h1, h2, h3, h4, h5, h6⟩, rfl, rfl⟩ := h
    obtain ⟨be, bsz, bk, bn, bq⟩ := b
    simp only at h1 h2 h3 h4 h5 h6
    subst h1 h3 h4 h5
    subst h2
    have hr := skept t bq 0
    rw [chkb (by simp [h6])] at hr
    have e : nzL t (canonI t 27 bq) = nzL t bq := nzL_congr fun a c ha hc => canon_cells bq ha hc
    rw [e] at hr
    exact ⟨TellsM.cells (fnKH_mut mixed plain (tabOf_ok (l := []) (by simp)) (mtabOf_ok (l := [m_delFunc]) (by simp [delFunc_ok])) rfl rfl hr) (fun a c ha hc => by
      unfold roomQ
      by_cases h' : a < (nzL t bq).length
      · simp only [h', decide_true, cond_true]
        unfold keptQ
        rw [e]
        exact canon_cells bq (nzL_lt h') hc
      · simp only [h', decide_false, cond_false]), rfl, rfl, rfl, rfl, Nat.le_refl _, rfl⟩
  · cases h
end Go.Proofs.Ytpjhlkidebcllaa.Fn
