/- What is told of joins is so. -/
import Derived.Test.YtpjhlkidebcllaaFmap
import Derived.Test.YtpjhlkidebcllaaDjoin
import Derived.Test.YtpjhlkidebcllaaEfrm
import Derived.Test.YtpjhlkidebcllaaEjoin
namespace Go.Proofs.Ytpjhlkidebcllaa.Fn
open Go Go.Proofs.Ytpjhlkidebcllaa.Abs
set_option linter.unusedVariables false
set_option linter.unusedSimpArgs false
theorem frmB_iff {r k c K C row inner col : Int} (h : frmB r k c K C row inner col = true) : movB r k K row inner = true ∧ movB k c C inner col = true ∧ movB r c C row col = true := by
  unfold frmB at h
  simp only [Bool.and_eq_true] at h
  exact ⟨h.1, h.2.1, h.2.2⟩
theorem framed_run (p r k c : Int) (n : Nat) (q : Nat → Nat → Int) (P1 R1 K1 C1 row inner col : Int) (hn : n ≤ 30) (hb : frmB r k c K1 C1 row inner col = true) (N m : Nat) : Gives (.sl 0 0 n n) n (fun i => frmF r k c K1 C1 row inner col (q i)) (Lframed_6 p r k c n q P1 R1 K1 C1 row inner col N (m + n + 1) 0 0 (nthR [])) := by
  obtain ⟨b1, b2, b3⟩ := frmB_iff hb
  have := map_loop (F := fun m x ny qh => Lframed_6 p r k c n q P1 R1 K1 C1 row inner col N m ny x qh) (n := n) (v := fun ny => .sl 0 0 ny ny) (g := fun i => frmF r k c K1 C1 row inner col (q i)) (fun m qh => by
    show Lframed_6 p r k c n q P1 R1 K1 C1 row inner col N (m + 1) n (n : Int) qh = _
    rw [rframed_6, bifF (decide_eq_false (Int.lt_irrefl _))]
    rfl) (fun i m qh hi => by
    show Lframed_6 p r k c n q P1 R1 K1 C1 row inner col N (m + 1) i (i : Int) qh = Lframed_6 p r k c n q P1 R1 K1 C1 row inner col N m (i + 1) ((i + 1 : Nat) : Int) _
    rw [rframed_6, toN, W_succ (show i < 1099511627776 by omega), bifT (decide_eq_true (by omega)), chkd ⟨by omega, by omega⟩, chkb b1, chkb b2, chkb b3, chkbeq, chkd (by omega), chkd rfl]
    rfl) n 0 m (nthR []) (by omega) (fun a c h => by omega)
  exact this
theorem framed_ok : EntOk e_framed := by
  intro vs v new hv
  unfold e_framed at hv
  simp only at hv
  split at hv
  · rename_i p r k c x P1 R1 K1 C1 row inner col
    simp only [Option.map_eq_some_iff, Prod.mk.injEq, Bool.and_eq_true, decide_eq_true_eq] at hv
    obtain ⟨y, hy, ⟨h1, h2⟩, rfl, rfl⟩ := hv
    obtain ⟨q', hr, hq⟩ := framed_run p r k c y.1 y.2 P1 R1 K1 C1 row inner col h1 h2 (y.1 + 1) 0
    rw [show 0 + y.1 + 1 = y.1 + 1 by omega] at hr
    rw [abs_ints (q' := q') hq]
    exact ent_run (l := [e_put]) (vs' := [.agg [I p, I r, I k, I c, .vi .u8 27 y.1 y.2], .agg [I P1, I R1, I K1, I C1, .nilsl], I row, I inner, I col]) (by simp [put_ok]) rfl (weak_cons (weak_sch hy) (same_weak (vs := [.agg [I P1, I R1, I K1, I C1, .nilsl], I row, I inner, I col]))) rfl rfl ((sframed p r k c y.1 y.2 P1 R1 K1 C1 row inner col (y.1 + 1)).trans hr) rfl (cleanB_ints _ _ _ _ _ _)
  · cases hv
/-- a loop that puts products behind those of a block -/
theorem put_loop {F : Nat → Int → Nat → (Nat → Nat → Int) → Bool → R} {n t : Nat} {b : Nat → Nat → Int} {v : Nat → AV} {g : Nat → Nat → Int}
    (hend : ∀ m ny qh cl, F (m + 1) (n : Int) ny qh cl = bif cl then some (v ny, [⟨tProduct, 27, .ints .u8 27 t b⟩], true) else some (v ny, [⟨tProduct, 27, .ints .u8 27 ny qh⟩], true))
    (hstep : ∀ i m qh cl, i < n → F (m + 1) (i : Int) (t + i) qh cl = F m ((i + 1 : Nat) : Int) (t + i + 1) (fun a c => bif decide (a < t + i) then qh a c else g i c) false) :
    ∀ (d i m : Nat) (qh : Nat → Nat → Int) (cl : Bool), i + d = n → (cl = true → i = 0 ∧ qh = b) → (∀ a c, a < t + i → c < 27 → (bif decide (a < t) then b a c else g (a - t) c) = qh a c) → Gives (v (t + n)) (t + n) (fun a c => bif decide (a < t) then b a c else g (a - t) c) (F (m + d + 1) (i : Int) (t + i) qh cl)
  | 0, i, m, qh, cl, h, hc, hq => by
    obtain rfl : i = n := by omega
    rw [Nat.add_zero, hend]
    cases cl with
    | true =>
      obtain ⟨rfl, rfl⟩ := hc rfl
      exact ⟨qh, rfl, hq⟩
    | false => exact ⟨qh, rfl, hq⟩
  | d + 1, i, m, qh, cl, h, hc, hq => by
    rw [show m + (d + 1) + 1 = (m + d + 1) + 1 by omega, hstep i _ qh cl (by omega)]
    refine put_loop hend hstep d (i + 1) m _ false (by omega) (fun h => by cases h) fun a c ha hc' => ?_
    by_cases h' : a < t + i
    · simp only [h', decide_true, cond_true]; exact hq a c h' hc'
    · obtain rfl : a = t + i := by omega
      have e1 : decide (t + i < t) = false := decide_eq_false (by omega)
      simp only [Nat.lt_irrefl, decide_false, cond_false, e1, Nat.add_sub_cancel_left]
theorem clT {x y : R} {cl : Bool} {c : Bool} (h : c = cl) : (bif c then x else y) = (bif cl then x else y) := by rw [h]
theorem l02Put_run (p r k c : Int) (n : Nat) (q : Nat → Nat → Int) (P1 R1 K1 C1 row inner col : Int) (t : Nat) (b : Nat → Nat → Int) (hn : n ≤ 30) (ht : t ≤ 30) (hb : frmB r k c K1 C1 row inner col = true) (N m : Nat) : Gives (.agg [I P1, I R1, I K1, I C1, .sl 0 0 (t + n) (t + n)]) (t + n) (putQ t b r k c K1 C1 row inner col q) (Ll02Put_2 p r k c n q P1 R1 K1 C1 row inner col t b N (m + n + 1) 0 t b true) := by
  obtain ⟨b1, b2, b3⟩ := frmB_iff hb
  have := put_loop (F := fun m x ny qh cl => Ll02Put_2 p r k c n q P1 R1 K1 C1 row inner col t b N m x ny qh cl) (n := n) (t := t) (b := b) (v := fun ny => .agg [I P1, I R1, I K1, I C1, .sl 0 0 ny ny]) (g := fun i => frmF r k c K1 C1 row inner col (q i)) (fun m ny qh cl => by
    show Ll02Put_2 p r k c n q P1 R1 K1 C1 row inner col t b N (m + 1) (n : Int) ny qh cl = _
    rw [rl02Put_2, bifF (decide_eq_false (Int.lt_irrefl _))]
    simp only [Bool.and_true]
    rfl) (fun i m qh cl hi => by
    show Ll02Put_2 p r k c n q P1 R1 K1 C1 row inner col t b N (m + 1) (i : Int) (t + i) qh cl = Ll02Put_2 p r k c n q P1 R1 K1 C1 row inner col t b N m ((i + 1 : Nat) : Int) (t + i + 1) _ false
    rw [rl02Put_2, toN, W_succ (show i < 1099511627776 by omega), bifT (decide_eq_true (by omega)), chkd ⟨by omega, by omega⟩, chkb b1, chkb b2, chkb b3, chkbeq, chkd (by omega), chkd rfl]
    simp only [Bool.and_true, Bool.and_false, Bool.false_and]
    rfl) n 0 m b true (by omega) (fun _ => ⟨rfl, rfl⟩) (fun a c h hc => by
      have e1 : decide (a < t) = true := decide_eq_true (by omega)
      simp only [e1, cond_true])
  exact this
theorem l02Put_ok : MEntOk m_l02Put := by
  intro vs b v b' hv
  unfold m_l02Put at hv
  simp only at hv
  split at hv
  · rename_i p r k c n q P1 R1 K1 C1 t u row inner col
    simp only [Option.some.injEq, Prod.mk.injEq, Bool.and_eq_true, decide_eq_true_eq] at hv
    obtain ⟨⟨h1, h2, h3, h4, h5, h6, h7, h8⟩, rfl, rfl⟩ := hv
    obtain ⟨be, bsz, bk, bn, bq⟩ := b
    simp only at h1 h2 h3 h4 h5 h6
    subst h1 h3 h4 h5
    subst h2
    obtain ⟨q', hr, hq⟩ := l02Put_run p r k c n q P1 R1 K1 C1 row inner col u bq h7 h6 h8 (n + 1) 0
    rw [show 0 + n + 1 = n + 1 by omega] at hr
    exact ⟨TellsM.cells (fnKH_mut mixed plain (tabOf_ok (l := [e_l02Moved]) (by simp [l02Moved_ok])) (KMTOk.none _) rfl rfl ((sl02Put p r k c n q P1 R1 K1 C1 row inner col u bq (n + 1)).trans hr)) (fun i j hi hj => (hq i j hi hj).symm), rfl, rfl, rfl, rfl, Nat.le_add_right _ _, rfl⟩
  · cases hv
/-- functions of two schemes: told -/
theorem two_told {f : Nat} {code : Sch → Sch → Int} {res : Sch → Sch → Sch} {l : List Ent} {ml : List MEnt} (hl : ∀ e ∈ l, EntOk e) (hm : ∀ e ∈ ml, MEntOk e) (hf : tabOf l [] f = none) (hfm : mtabOf ml f = none) (ms : Rounds)
    (herr : ∀ (p r k c : Int) (n : Nat) (q : Nat → Nat → Int) (p' r' k' c' : Int) (n' : Nat) (q' : Nat → Nat → Int), code ⟨p, r, k, c, n, q⟩ ⟨p', r', k', c', n', q'⟩ ≠ 0 → fnK Try.prog (kc (tabOf l) (mtabOf ml)) 40 ms f [.agg [I p, I r, I k, I c, .vi .u8 27 n q], .agg [I p', I r', I k', I c', .vi .u8 27 n' q']] done = some (.tup [.agg [I 0, I 0, I 0, I 0, .nilsl], I (code ⟨p, r, k, c, n, q⟩ ⟨p', r', k', c', n', q'⟩)], [], true))
    (hok : ∀ (p r k c : Int) (n : Nat) (q : Nat → Nat → Int) (p' r' k' c' : Int) (n' : Nat) (q' : Nat → Nat → Int), code ⟨p, r, k, c, n, q⟩ ⟨p', r', k', c', n', q'⟩ = 0 → ∀ s, res ⟨p, r, k, c, n, q⟩ ⟨p', r', k', c', n', q'⟩ = s →
      Gives (.tup [.agg [I s.p, I s.r, I s.m, I s.c, .sl 0 0 s.n s.n], I 0]) s.n s.q (fnK Try.prog (kc (tabOf l) (mtabOf ml)) 40 ms f [.agg [I p, I r, I k, I c, .vi .u8 27 n q], .agg [I p', I r', I k', I c', .vi .u8 27 n' q']] done)) :
    CEntOk (f, g_join code res) := by
  intro vs a h hv
  unfold g_join at h
  simp only at h
  split at h
  · rename_i x y
    simp only [Option.bind_eq_some_iff, Option.map_eq_some_iff] at h
    obtain ⟨s, hs, s', hs', rfl⟩ := h
    obtain ⟨p, r, k, c, z, w, rfl, hw, rfl⟩ := sch_eq hs
    obtain ⟨p', r', k', c', z', w', rfl, hw', rfl⟩ := sch_eq hs'
    obtain ⟨n, q⟩ := w
    obtain ⟨n', q'⟩ := w'
    have hw := weak_cons (weak_sch (p := p) (r := r) (k := k) (c := c) hw) (weak_cons (weak_sch (p := p') (r := r') (k := k') (c := c') hw') weak_nil)
    have tr {v : AV} {new new' : List KB} := told_run (l := l) (cl := []) (ml := ml) (n := 40) (m := ms) (f := f) (vs := [.agg [I p, I r, I k, I c, z], .agg [I p', I r', I k', I c', z']]) (vs' := [.agg [I p, I r, I k, I c, .vi .u8 27 n q], .agg [I p', I r', I k', I c', .vi .u8 27 n' q']]) (v := v) (new := new) (new' := new') hl none_cok hm rfl hw rfl hf hfm
    refine sAns_told hv (fun h0 => tr (herr p r k c n q p' r' k' c' n' q' h0) rfl rfl cleanB_nil) (fun _ _ h => by cases h) (fun h0 _ _ => ?_)
    obtain ⟨q2, hx, hq⟩ := hok p r k c n q p' r' k' c' n' q' h0 _ rfl
    exact tr hx (abs_ints hq) rfl (cleanB_ints _ _ _ _ _ _)
  · cases h
theorem joinW {a b : Int} (h1 : 1 ≤ a ∧ a ≤ 3) (h2 : 1 ≤ b ∧ b ≤ 3) : W (a + b) = a + b := W_of (by omega) (by omega)
theorem isB_of {a b : Bool} {x : Int} (h : (bif a && b then x else 1) = 0) : a = true ∧ b = true := by
  cases a <;> cases b <;> simp at h ⊢
theorem mJoin_fact {o : Nat} {x y : Sch} (h : codeJoin o x y = 0) : (resJoin o x y).n ≤ 1048576 := by
  unfold codeJoin at h
  obtain ⟨h1, h2⟩ := isB_of h
  obtain ⟨_, _, _, _, h5, _⟩ := isB_sizes h1
  obtain ⟨_, _, _, _, h6, _⟩ := isB_sizes h2
  show x.n + y.n ≤ 1048576
  omega
theorem mJoinRows_fact {x y : Sch} (h : codeJoinRows x y = 0) : (resJoinRows x y).n ≤ 1048576 := mJoin_fact h
theorem codeJoinRows0 {p r k c : Int} {n : Nat} {q : Nat → Nat → Int} {p' r' k' c' : Int} {n' : Nat} {q' : Nat → Nat → Int} (h : codeJoinRows ⟨p, r, k, c, n, q⟩ ⟨p', r', k', c', n', q'⟩ = 0) : isB p r k c n q = true ∧ isB p' r' k' c' n' q' = true ∧ p = p' ∧ k = k' ∧ c = c' ∧ r + r' ≤ 3 ∧ n + n' ≤ 30 := by
  unfold codeJoinRows codeJoin at h
  obtain ⟨h1, h2⟩ := isB_of h
  simp only [h1, h2, Bool.and_self, cond_true] at h
  refine ⟨h1, h2, ?_⟩
  by_cases e0 : p = p' <;> by_cases e1 : k = k' <;> by_cases e2 : c = c' <;> by_cases e4 : r + r' ≤ 3 <;> by_cases e5 : n + n' ≤ 30 <;> simp [e0, e1, e2, e4, e5] at h ⊢
theorem ce_specJoinRows_ok : CEntOk ce_specJoinRows := by
  refine two_told (code := codeJoinRows) (res := resJoinRows) (l := [e_l01Is]) (ml := [m_l02Put]) (by simp [l01Is_ok]) (by simp [l02Put_ok]) rfl rfl (rnd [] 40 0) ?_ ?_
  · intro p r k c n q p' r' k' c' n' q' h0
    refine (sspecJoinRows p r k c n q p' r' k' c' n' q' 0).trans ?_
    unfold codeJoinRows codeJoin at h0 ⊢
    simp only at h0 ⊢
    cases hB : isB p r k c n q with
    | false => rw [hB] at h0; exact bifT rfl _ _
    | true =>
      rw [hB] at h0
      rw [bifF (show (!true) = false from rfl)]
      cases hB' : isB p' r' k' c' n' q' with
      | false => rw [hB'] at h0; exact bifT rfl _ _
      | true =>
        rw [hB'] at h0
        rw [bifF (show (!true) = false from rfl)]
        obtain ⟨_, s1, s2, s3, s4, _⟩ := isB_sizes hB
        obtain ⟨_, s1', s2', s3', s4', _⟩ := isB_sizes hB'
        have w1 : W (r + r') = r + r' := joinW (by assumption) (by assumption)
        have w2 : W ((n : Int) + (n' : Int)) = (n : Int) + (n' : Int) := W_of (by omega) (by omega)
        rw [w1, w2]
        by_cases e0 : p = p'
        · by_cases e1 : k = k'
          · by_cases e2 : c = c'
            · by_cases e4 : r + r' ≤ 3
              · by_cases e5 : n + n' ≤ 30
                · exact absurd (by simp [e0, e1, e2, e4, e5]) h0
                · have e6 : (30 : Int) < (n : Int) + (n' : Int) := by omega
                  have e7 : ¬ (3 : Int) < r + r' := by omega
                  simp [e0, e1, e2, e4, e5, e6, e7] <;> rfl
              · have e7 : (3 : Int) < r + r' := by omega
                simp [e0, e1, e2, e4, e7] <;> rfl
            · simp [e0, e1, e2] <;> rfl
          · simp [e0, e1] <;> rfl
        · simp [e0] <;> rfl
  · rintro p r k c n q p' r' k' c' n' q' h0 s rfl
    obtain ⟨hB, hB', e0, e1, e2, e4, e5⟩ := codeJoinRows0 h0
    obtain ⟨_, s1, s2, s3, s4, _⟩ := isB_sizes hB
    obtain ⟨_, s1', s2', s3', s4', _⟩ := isB_sizes hB'
    subst e0 e1 e2
    have w1 : W (r + r') = r + r' := joinW (by assumption) (by assumption)
    have w2 : W ((n : Int) + (n' : Int)) = (n : Int) + (n' : Int) := W_of (by omega) (by omega)
    have e6 : ¬ (30 : Int) < (n : Int) + (n' : Int) := by omega
    have e7 : ¬ (3 : Int) < r + r' := by omega
    have g1 : frmB r k c k c 0 0 0 = true := by
      unfold frmB movB; simp only [Bool.and_eq_true, decide_eq_true_eq]; omega
    have g2 : frmB r' k c k c r 0 0 = true := by
      unfold frmB movB; simp only [Bool.and_eq_true, decide_eq_true_eq]; omega
    refine ⟨?q1, (sspecJoinRows p r k c n q p r' k c n' q' 0).trans ?h1, ?h2⟩
    case h1 =>
      rw [w1, w2]
      have f1 : n ≤ 4294967296 := by omega
      have f2 : n + n' ≤ 4294967296 := by omega
      simp only [hB, hB', e6, e7, s4, s4', g1, g2, f1, f2, Nat.zero_add, Nat.le_refl, beq_self_eq_true, decide_true, decide_false, Bool.and_self, Bool.not_true, cond_false, cond_true, chk]
      exact rfl
    case h2 =>
      intro a c2 ha hc2
      by_cases h : a < n <;> simp [resJoinRows, resJoin, putQ, canonI, h, hc2]
theorem ce_implJoinRows_ok : CEntOk ce_implJoinRows := by
  refine two_told (code := codeJoinRows) (res := resJoinRows) (l := [e_IsScheme, e_framed]) (ml := []) (by simp [IsScheme_ok, framed_ok]) (by simp) rfl rfl (rnd [2, 5] 5 0) ?_ ?_
  · intro p r k c n q p' r' k' c' n' q' h0
    refine (simplJoinRows p r k c n q p' r' k' c' n' q' 0).trans ?_
    unfold codeJoinRows codeJoin at h0 ⊢
    simp only at h0 ⊢
    cases hB : isB p r k c n q with
    | false => rw [hB] at h0; exact bifT rfl _ _
    | true =>
      rw [hB] at h0
      rw [bifF (show (!true) = false from rfl)]
      cases hB' : isB p' r' k' c' n' q' with
      | false => rw [hB'] at h0; exact bifT rfl _ _
      | true =>
        rw [hB'] at h0
        rw [bifF (show (!true) = false from rfl)]
        obtain ⟨_, s1, s2, s3, s4, _⟩ := isB_sizes hB
        obtain ⟨_, s1', s2', s3', s4', _⟩ := isB_sizes hB'
        have w1 : W (r + r') = r + r' := joinW (by assumption) (by assumption)
        have w2 : W ((n : Int) + (n' : Int)) = (n : Int) + (n' : Int) := W_of (by omega) (by omega)
        rw [w1, w2]
        by_cases e0 : p = p'
        · by_cases e1 : k = k'
          · by_cases e2 : c = c'
            · by_cases e4 : r + r' ≤ 3
              · by_cases e5 : n + n' ≤ 30
                · exact absurd (by simp [e0, e1, e2, e4, e5]) h0
                · have e6 : (30 : Int) < (n : Int) + (n' : Int) := by omega
                  have e7 : ¬ (3 : Int) < r + r' := by omega
                  simp [e0, e1, e2, e4, e5, e6, e7] <;> rfl
              · have e7 : (3 : Int) < r + r' := by omega
                simp [e0, e1, e2, e4, e7] <;> rfl
            · simp [e0, e1, e2] <;> rfl
          · simp [e0, e1] <;> rfl
        · simp [e0] <;> rfl
  · rintro p r k c n q p' r' k' c' n' q' h0 s rfl
    obtain ⟨hB, hB', e0, e1, e2, e4, e5⟩ := codeJoinRows0 h0
    obtain ⟨_, s1, s2, s3, s4, _⟩ := isB_sizes hB
    obtain ⟨_, s1', s2', s3', s4', _⟩ := isB_sizes hB'
    subst e0 e1 e2
    have w1 : W (r + r') = r + r' := joinW (by assumption) (by assumption)
    have w2 : W ((n : Int) + (n' : Int)) = (n : Int) + (n' : Int) := W_of (by omega) (by omega)
    have e6 : ¬ (30 : Int) < (n : Int) + (n' : Int) := by omega
    have e7 : ¬ (3 : Int) < r + r' := by omega
    have g1 : frmB r k c k c 0 0 0 = true := by
      unfold frmB movB; simp only [Bool.and_eq_true, decide_eq_true_eq]; omega
    have g2 : frmB r' k c k c r 0 0 = true := by
      unfold frmB movB; simp only [Bool.and_eq_true, decide_eq_true_eq]; omega
    refine ⟨?q1, (simplJoinRows p r k c n q p r' k c n' q' 0).trans ?h1, ?h2⟩
    case h1 =>
      rw [w1, w2]
      have f1 : n ≤ 4294967296 := by omega
      have f2 : n + n' ≤ 4294967296 := by omega
      simp only [hB, hB', e6, e7, s4, s4', g1, g2, f1, f2, Nat.zero_add, Nat.le_refl, beq_self_eq_true, decide_true, decide_false, Bool.and_self, Bool.not_true, cond_false, cond_true, chk]
      exact rfl
    case h2 =>
      intro a c2 ha hc2
      by_cases h : a < n <;> simp [resJoinRows, resJoin, putQ, canonI, h, hc2]
theorem mJoinInner_fact {x y : Sch} (h : codeJoinInner x y = 0) : (resJoinInner x y).n ≤ 1048576 := mJoin_fact h
theorem codeJoinInner0 {p r k c : Int} {n : Nat} {q : Nat → Nat → Int} {p' r' k' c' : Int} {n' : Nat} {q' : Nat → Nat → Int} (h : codeJoinInner ⟨p, r, k, c, n, q⟩ ⟨p', r', k', c', n', q'⟩ = 0) : isB p r k c n q = true ∧ isB p' r' k' c' n' q' = true ∧ p = p' ∧ r = r' ∧ c = c' ∧ k + k' ≤ 3 ∧ n + n' ≤ 30 := by
  unfold codeJoinInner codeJoin at h
  obtain ⟨h1, h2⟩ := isB_of h
  simp only [h1, h2, Bool.and_self, cond_true] at h
  refine ⟨h1, h2, ?_⟩
  by_cases e0 : p = p' <;> by_cases e1 : r = r' <;> by_cases e2 : c = c' <;> by_cases e4 : k + k' ≤ 3 <;> by_cases e5 : n + n' ≤ 30 <;> simp [e0, e1, e2, e4, e5] at h ⊢
theorem ce_specJoinInner_ok : CEntOk ce_specJoinInner := by
  refine two_told (code := codeJoinInner) (res := resJoinInner) (l := [e_l01Is]) (ml := [m_l02Put]) (by simp [l01Is_ok]) (by simp [l02Put_ok]) rfl rfl (rnd [] 40 0) ?_ ?_
  · intro p r k c n q p' r' k' c' n' q' h0
    refine (sspecJoinInner p r k c n q p' r' k' c' n' q' 0).trans ?_
    unfold codeJoinInner codeJoin at h0 ⊢
    simp only at h0 ⊢
    cases hB : isB p r k c n q with
    | false => rw [hB] at h0; exact bifT rfl _ _
    | true =>
      rw [hB] at h0
      rw [bifF (show (!true) = false from rfl)]
      cases hB' : isB p' r' k' c' n' q' with
      | false => rw [hB'] at h0; exact bifT rfl _ _
      | true =>
        rw [hB'] at h0
        rw [bifF (show (!true) = false from rfl)]
        obtain ⟨_, s1, s2, s3, s4, _⟩ := isB_sizes hB
        obtain ⟨_, s1', s2', s3', s4', _⟩ := isB_sizes hB'
        have w1 : W (k + k') = k + k' := joinW (by assumption) (by assumption)
        have w2 : W ((n : Int) + (n' : Int)) = (n : Int) + (n' : Int) := W_of (by omega) (by omega)
        rw [w1, w2]
        by_cases e0 : p = p'
        · by_cases e1 : r = r'
          · by_cases e2 : c = c'
            · by_cases e4 : k + k' ≤ 3
              · by_cases e5 : n + n' ≤ 30
                · exact absurd (by simp [e0, e1, e2, e4, e5]) h0
                · have e6 : (30 : Int) < (n : Int) + (n' : Int) := by omega
                  have e7 : ¬ (3 : Int) < k + k' := by omega
                  simp [e0, e1, e2, e4, e5, e6, e7] <;> rfl
              · have e7 : (3 : Int) < k + k' := by omega
                simp [e0, e1, e2, e4, e7] <;> rfl
            · simp [e0, e1, e2] <;> rfl
          · simp [e0, e1] <;> rfl
        · simp [e0] <;> rfl
  · rintro p r k c n q p' r' k' c' n' q' h0 s rfl
    obtain ⟨hB, hB', e0, e1, e2, e4, e5⟩ := codeJoinInner0 h0
    obtain ⟨_, s1, s2, s3, s4, _⟩ := isB_sizes hB
    obtain ⟨_, s1', s2', s3', s4', _⟩ := isB_sizes hB'
    subst e0 e1 e2
    have w1 : W (k + k') = k + k' := joinW (by assumption) (by assumption)
    have w2 : W ((n : Int) + (n' : Int)) = (n : Int) + (n' : Int) := W_of (by omega) (by omega)
    have e6 : ¬ (30 : Int) < (n : Int) + (n' : Int) := by omega
    have e7 : ¬ (3 : Int) < k + k' := by omega
    have g1 : frmB r k c (k + k') c 0 0 0 = true := by
      unfold frmB movB; simp only [Bool.and_eq_true, decide_eq_true_eq]; omega
    have g2 : frmB r k' c (k + k') c 0 k 0 = true := by
      unfold frmB movB; simp only [Bool.and_eq_true, decide_eq_true_eq]; omega
    refine ⟨?q1, (sspecJoinInner p r k c n q p r k' c n' q' 0).trans ?h1, ?h2⟩
    case h1 =>
      rw [w1, w2]
      have f1 : n ≤ 4294967296 := by omega
      have f2 : n + n' ≤ 4294967296 := by omega
      simp only [hB, hB', e6, e7, s4, s4', g1, g2, f1, f2, Nat.zero_add, Nat.le_refl, beq_self_eq_true, decide_true, decide_false, Bool.and_self, Bool.not_true, cond_false, cond_true, chk]
      exact rfl
    case h2 =>
      intro a c2 ha hc2
      by_cases h : a < n <;> simp [resJoinInner, resJoin, putQ, canonI, h, hc2]
theorem ce_implJoinInner_ok : CEntOk ce_implJoinInner := by
  refine two_told (code := codeJoinInner) (res := resJoinInner) (l := [e_IsScheme, e_framed]) (ml := []) (by simp [IsScheme_ok, framed_ok]) (by simp) rfl rfl (rnd [2, 5] 5 0) ?_ ?_
  · intro p r k c n q p' r' k' c' n' q' h0
    refine (simplJoinInner p r k c n q p' r' k' c' n' q' 0).trans ?_
    unfold codeJoinInner codeJoin at h0 ⊢
    simp only at h0 ⊢
    cases hB : isB p r k c n q with
    | false => rw [hB] at h0; exact bifT rfl _ _
    | true =>
      rw [hB] at h0
      rw [bifF (show (!true) = false from rfl)]
      cases hB' : isB p' r' k' c' n' q' with
      | false => rw [hB'] at h0; exact bifT rfl _ _
      | true =>
        rw [hB'] at h0
        rw [bifF (show (!true) = false from rfl)]
        obtain ⟨_, s1, s2, s3, s4, _⟩ := isB_sizes hB
        obtain ⟨_, s1', s2', s3', s4', _⟩ := isB_sizes hB'
        have w1 : W (k + k') = k + k' := joinW (by assumption) (by assumption)
        have w2 : W ((n : Int) + (n' : Int)) = (n : Int) + (n' : Int) := W_of (by omega) (by omega)
        rw [w1, w2]
        by_cases e0 : p = p'
        · by_cases e1 : r = r'
          · by_cases e2 : c = c'
            · by_cases e4 : k + k' ≤ 3
              · by_cases e5 : n + n' ≤ 30
                · exact absurd (by simp [e0, e1, e2, e4, e5]) h0
                · have e6 : (30 : Int) < (n : Int) + (n' : Int) := by omega
                  have e7 : ¬ (3 : Int) < k + k' := by omega
                  simp [e0, e1, e2, e4, e5, e6, e7] <;> rfl
              · have e7 : (3 : Int) < k + k' := by omega
                simp [e0, e1, e2, e4, e7] <;> rfl
            · simp [e0, e1, e2] <;> rfl
          · simp [e0, e1] <;> rfl
        · simp [e0] <;> rfl
  · rintro p r k c n q p' r' k' c' n' q' h0 s rfl
    obtain ⟨hB, hB', e0, e1, e2, e4, e5⟩ := codeJoinInner0 h0
    obtain ⟨_, s1, s2, s3, s4, _⟩ := isB_sizes hB
    obtain ⟨_, s1', s2', s3', s4', _⟩ := isB_sizes hB'
    subst e0 e1 e2
    have w1 : W (k + k') = k + k' := joinW (by assumption) (by assumption)
    have w2 : W ((n : Int) + (n' : Int)) = (n : Int) + (n' : Int) := W_of (by omega) (by omega)
    have e6 : ¬ (30 : Int) < (n : Int) + (n' : Int) := by omega
    have e7 : ¬ (3 : Int) < k + k' := by omega
    have g1 : frmB r k c (k + k') c 0 0 0 = true := by
      unfold frmB movB; simp only [Bool.and_eq_true, decide_eq_true_eq]; omega
    have g2 : frmB r k' c (k + k') c 0 k 0 = true := by
      unfold frmB movB; simp only [Bool.and_eq_true, decide_eq_true_eq]; omega
    refine ⟨?q1, (simplJoinInner p r k c n q p r k' c n' q' 0).trans ?h1, ?h2⟩
    case h1 =>
      rw [w1, w2]
      have f1 : n ≤ 4294967296 := by omega
      have f2 : n + n' ≤ 4294967296 := by omega
      simp only [hB, hB', e6, e7, s4, s4', g1, g2, f1, f2, Nat.zero_add, Nat.le_refl, beq_self_eq_true, decide_true, decide_false, Bool.and_self, Bool.not_true, cond_false, cond_true, chk]
      exact rfl
    case h2 =>
      intro a c2 ha hc2
      by_cases h : a < n <;> simp [resJoinInner, resJoin, putQ, canonI, h, hc2]
theorem mJoinCols_fact {x y : Sch} (h : codeJoinCols x y = 0) : (resJoinCols x y).n ≤ 1048576 := mJoin_fact h
theorem codeJoinCols0 {p r k c : Int} {n : Nat} {q : Nat → Nat → Int} {p' r' k' c' : Int} {n' : Nat} {q' : Nat → Nat → Int} (h : codeJoinCols ⟨p, r, k, c, n, q⟩ ⟨p', r', k', c', n', q'⟩ = 0) : isB p r k c n q = true ∧ isB p' r' k' c' n' q' = true ∧ p = p' ∧ r = r' ∧ k = k' ∧ c + c' ≤ 3 ∧ n + n' ≤ 30 := by
  unfold codeJoinCols codeJoin at h
  obtain ⟨h1, h2⟩ := isB_of h
  simp only [h1, h2, Bool.and_self, cond_true] at h
  refine ⟨h1, h2, ?_⟩
  by_cases e0 : p = p' <;> by_cases e1 : r = r' <;> by_cases e2 : k = k' <;> by_cases e4 : c + c' ≤ 3 <;> by_cases e5 : n + n' ≤ 30 <;> simp [e0, e1, e2, e4, e5] at h ⊢
theorem ce_specJoinCols_ok : CEntOk ce_specJoinCols := by
  refine two_told (code := codeJoinCols) (res := resJoinCols) (l := [e_l01Is]) (ml := [m_l02Put]) (by simp [l01Is_ok]) (by simp [l02Put_ok]) rfl rfl (rnd [] 40 0) ?_ ?_
  · intro p r k c n q p' r' k' c' n' q' h0
    refine (sspecJoinCols p r k c n q p' r' k' c' n' q' 0).trans ?_
    unfold codeJoinCols codeJoin at h0 ⊢
    simp only at h0 ⊢
    cases hB : isB p r k c n q with
    | false => rw [hB] at h0; exact bifT rfl _ _
    | true =>
      rw [hB] at h0
      rw [bifF (show (!true) = false from rfl)]
      cases hB' : isB p' r' k' c' n' q' with
      | false => rw [hB'] at h0; exact bifT rfl _ _
      | true =>
        rw [hB'] at h0
        rw [bifF (show (!true) = false from rfl)]
        obtain ⟨_, s1, s2, s3, s4, _⟩ := isB_sizes hB
        obtain ⟨_, s1', s2', s3', s4', _⟩ := isB_sizes hB'
        have w1 : W (c + c') = c + c' := joinW (by assumption) (by assumption)
        have w2 : W ((n : Int) + (n' : Int)) = (n : Int) + (n' : Int) := W_of (by omega) (by omega)
        rw [w1, w2]
        by_cases e0 : p = p'
        · by_cases e1 : r = r'
          · by_cases e2 : k = k'
            · by_cases e4 : c + c' ≤ 3
              · by_cases e5 : n + n' ≤ 30
                · exact absurd (by simp [e0, e1, e2, e4, e5]) h0
                · have e6 : (30 : Int) < (n : Int) + (n' : Int) := by omega
                  have e7 : ¬ (3 : Int) < c + c' := by omega
                  simp [e0, e1, e2, e4, e5, e6, e7] <;> rfl
              · have e7 : (3 : Int) < c + c' := by omega
                simp [e0, e1, e2, e4, e7] <;> rfl
            · simp [e0, e1, e2] <;> rfl
          · simp [e0, e1] <;> rfl
        · simp [e0] <;> rfl
  · rintro p r k c n q p' r' k' c' n' q' h0 s rfl
    obtain ⟨hB, hB', e0, e1, e2, e4, e5⟩ := codeJoinCols0 h0
    obtain ⟨_, s1, s2, s3, s4, _⟩ := isB_sizes hB
    obtain ⟨_, s1', s2', s3', s4', _⟩ := isB_sizes hB'
    subst e0 e1 e2
    have w1 : W (c + c') = c + c' := joinW (by assumption) (by assumption)
    have w2 : W ((n : Int) + (n' : Int)) = (n : Int) + (n' : Int) := W_of (by omega) (by omega)
    have e6 : ¬ (30 : Int) < (n : Int) + (n' : Int) := by omega
    have e7 : ¬ (3 : Int) < c + c' := by omega
    have g1 : frmB r k c k (c + c') 0 0 0 = true := by
      unfold frmB movB; simp only [Bool.and_eq_true, decide_eq_true_eq]; omega
    have g2 : frmB r k c' k (c + c') 0 0 c = true := by
      unfold frmB movB; simp only [Bool.and_eq_true, decide_eq_true_eq]; omega
    refine ⟨?q1, (sspecJoinCols p r k c n q p r k c' n' q' 0).trans ?h1, ?h2⟩
    case h1 =>
      rw [w1, w2]
      have f1 : n ≤ 4294967296 := by omega
      have f2 : n + n' ≤ 4294967296 := by omega
      simp only [hB, hB', e6, e7, s4, s4', g1, g2, f1, f2, Nat.zero_add, Nat.le_refl, beq_self_eq_true, decide_true, decide_false, Bool.and_self, Bool.not_true, cond_false, cond_true, chk]
      exact rfl
    case h2 =>
      intro a c2 ha hc2
      by_cases h : a < n <;> simp [resJoinCols, resJoin, putQ, canonI, h, hc2]
theorem ce_implJoinCols_ok : CEntOk ce_implJoinCols := by
  refine two_told (code := codeJoinCols) (res := resJoinCols) (l := [e_IsScheme, e_framed]) (ml := []) (by simp [IsScheme_ok, framed_ok]) (by simp) rfl rfl (rnd [2, 5] 5 0) ?_ ?_
  · intro p r k c n q p' r' k' c' n' q' h0
    refine (simplJoinCols p r k c n q p' r' k' c' n' q' 0).trans ?_
    unfold codeJoinCols codeJoin at h0 ⊢
    simp only at h0 ⊢
    cases hB : isB p r k c n q with
    | false => rw [hB] at h0; exact bifT rfl _ _
    | true =>
      rw [hB] at h0
      rw [bifF (show (!true) = false from rfl)]
      cases hB' : isB p' r' k' c' n' q' with
      | false => rw [hB'] at h0; exact bifT rfl _ _
      | true =>
        rw [hB'] at h0
        rw [bifF (show (!true) = false from rfl)]
        obtain ⟨_, s1, s2, s3, s4, _⟩ := isB_sizes hB
        obtain ⟨_, s1', s2', s3', s4', _⟩ := isB_sizes hB'
        have w1 : W (c + c') = c + c' := joinW (by assumption) (by assumption)
        have w2 : W ((n : Int) + (n' : Int)) = (n : Int) + (n' : Int) := W_of (by omega) (by omega)
        rw [w1, w2]
        by_cases e0 : p = p'
        · by_cases e1 : r = r'
          · by_cases e2 : k = k'
            · by_cases e4 : c + c' ≤ 3
              · by_cases e5 : n + n' ≤ 30
                · exact absurd (by simp [e0, e1, e2, e4, e5]) h0
                · have e6 : (30 : Int) < (n : Int) + (n' : Int) := by omega
                  have e7 : ¬ (3 : Int) < c + c' := by omega
                  simp [e0, e1, e2, e4, e5, e6, e7] <;> rfl
              · have e7 : (3 : Int) < c + c' := by omega
                simp [e0, e1, e2, e4, e7] <;> rfl
            · simp [e0, e1, e2] <;> rfl
          · simp [e0, e1] <;> rfl
        · simp [e0] <;> rfl
  · rintro p r k c n q p' r' k' c' n' q' h0 s rfl
    obtain ⟨hB, hB', e0, e1, e2, e4, e5⟩ := codeJoinCols0 h0
    obtain ⟨_, s1, s2, s3, s4, _⟩ := isB_sizes hB
    obtain ⟨_, s1', s2', s3', s4', _⟩ := isB_sizes hB'
    subst e0 e1 e2
    have w1 : W (c + c') = c + c' := joinW (by assumption) (by assumption)
    have w2 : W ((n : Int) + (n' : Int)) = (n : Int) + (n' : Int) := W_of (by omega) (by omega)
    have e6 : ¬ (30 : Int) < (n : Int) + (n' : Int) := by omega
    have e7 : ¬ (3 : Int) < c + c' := by omega
    have g1 : frmB r k c k (c + c') 0 0 0 = true := by
      unfold frmB movB; simp only [Bool.and_eq_true, decide_eq_true_eq]; omega
    have g2 : frmB r k c' k (c + c') 0 0 c = true := by
      unfold frmB movB; simp only [Bool.and_eq_true, decide_eq_true_eq]; omega
    refine ⟨?q1, (simplJoinCols p r k c n q p r k c' n' q' 0).trans ?h1, ?h2⟩
    case h1 =>
      rw [w1, w2]
      have f1 : n ≤ 4294967296 := by omega
      have f2 : n + n' ≤ 4294967296 := by omega
      simp only [hB, hB', e6, e7, s4, s4', g1, g2, f1, f2, Nat.zero_add, Nat.le_refl, beq_self_eq_true, decide_true, decide_false, Bool.and_self, Bool.not_true, cond_false, cond_true, chk]
      exact rfl
    case h2 =>
      intro a c2 ha hc2
      by_cases h : a < n <;> simp [resJoinCols, resJoin, putQ, canonI, h, hc2]
end Go.Proofs.Ytpjhlkidebcllaa.Fn
