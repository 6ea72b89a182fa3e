/- What is told of products of schemes is so. -/
import Derived.Test.YtpjhlkidebcllaaFplus
import Derived.Test.YtpjhlkidebcllaaDmul
import Derived.Test.YtpjhlkidebcllaaEmul
namespace Go.Proofs.Ytpjhlkidebcllaa.Fn
open Go Go.Proofs.Ytpjhlkidebcllaa.Abs
set_option maxRecDepth 100000
set_option linter.unusedVariables false
set_option linter.unusedSimpArgs false
/-! two loops, one in the other, that put one product behind the others in each inner round -/
section
variable {Oa : Nat → Int → R} {Ia : Nat → Nat → Int → R} {Ib : Nat → Nat → Int → Int → Nat → (Nat → Nat → Int) → R} {Ob : Nat → Int → Nat → (Nat → Nat → Int) → R} {n n' N : Nat} {z : R} {v : Nat → AV} {g : Nat → Nat → Nat → Int}
variable (hN : n' < N) (hn : n * n' ≤ 1000)
variable (oaE : ∀ m, Oa (m + 1) (n : Int) = z) (oaS : ∀ i m, i < n → Oa (m + 1) (i : Int) = Ia m N (i : Int))
variable (iaE : ∀ i m1 m, i < n → n' = 0 → Ia m1 (m + 1) (i : Int) = Oa m1 ((i + 1 : Nat) : Int)) (iaS : ∀ i m1 m, i < n → 0 < n' → Ia m1 (m + 1) (i : Int) = Ib m1 m (i : Int) 1 1 (fun _ => g i 0))
variable (ibE : ∀ i m1 m ny qh, i < n → Ib m1 (m + 1) (i : Int) (n' : Int) ny qh = Ob m1 ((i + 1 : Nat) : Int) ny qh) (ibS : ∀ i j m1 m ny qh, i < n → j < n' → ny ≤ 1000 → Ib m1 (m + 1) (i : Int) (j : Int) ny qh = Ib m1 m (i : Int) ((j + 1 : Nat) : Int) (ny + 1) (fun a c => bif decide (a < ny) then qh a c else g i j c))
variable (obE : ∀ m ny qh, Ob (m + 1) (n : Int) ny qh = some (v ny, [⟨tProduct, 27, .ints .u8 27 ny qh⟩], true)) (obS : ∀ i m ny qh, i < n → Ob (m + 1) (i : Int) ny qh = Ib m N (i : Int) 0 ny qh)
abbrev inv2 (n' : Nat) (g : Nat → Nat → Nat → Int) (t : Nat) (qh : Nat → Nat → Int) : Prop := ∀ a c, a < t → c < 27 → g (a / n') (a % n') c = qh a c
include ibE ibS hn in
theorem inner_b (i : Nat) (hi : i < n) : ∀ (d j m1 m : Nat) (qh : Nat → Nat → Int), j + d = n' → inv2 n' g (i * n' + j) qh → ∃ qh', Ib m1 (m + d + 1) (i : Int) (j : Int) (i * n' + j) qh = Ob m1 ((i + 1 : Nat) : Int) ((i + 1) * n') qh' ∧ inv2 n' g ((i + 1) * n') qh'
  | 0, j, m1, m, qh, h, hq => by
    obtain rfl : j = n' := by omega
    rw [Nat.add_zero, ibE i m1 m _ qh hi, Nat.succ_mul]
    rw [← Nat.succ_mul] at *
    exact ⟨qh, rfl, hq⟩
  | d + 1, j, m1, m, qh, h, hq => by
    have hb : i * n' + n' ≤ n * n' := by rw [← Nat.succ_mul]; exact Nat.mul_le_mul_right _ hi
    rw [show m + (d + 1) + 1 = (m + d + 1) + 1 by omega, ibS i j m1 _ _ qh hi (by omega) (by omega)]
    refine inner_b i hi d (j + 1) m1 m _ (by omega) fun a c ha hc => ?_
    by_cases h' : a < i * n' + j
    · simp only [h', decide_true, cond_true]; exact hq a c h' hc
    · obtain rfl : a = i * n' + j := by omega
      have hj : j < n' := by omega
      have e1 : (i * n' + j) / n' = i := by rw [Nat.add_comm, Nat.add_mul_div_right _ _ (by omega), Nat.div_eq_of_lt hj, Nat.zero_add]
      have e2 : (i * n' + j) % n' = j := by rw [Nat.add_comm, Nat.add_mul_mod_self_right, Nat.mod_eq_of_lt hj]
      simp only [Nat.lt_irrefl, decide_false, cond_false, e1, e2]
include hN hn ibE ibS obE obS in
theorem outer_b : ∀ (e i m : Nat) (qh : Nat → Nat → Int), i + e = n → inv2 n' g (i * n') qh → Gives (v (n * n')) (n * n') (fun a => g (a / n') (a % n')) (Ob (m + e + 1) (i : Int) (i * n') qh)
  | 0, i, m, qh, h, hq => by
    obtain rfl : i = n := by omega
    rw [Nat.add_zero, obE]
    exact ⟨qh, rfl, hq⟩
  | e + 1, i, m, qh, h, hq => by
    rw [show m + (e + 1) + 1 = (m + e + 1) + 1 by omega, obS i _ _ qh (by omega)]
    obtain ⟨M, hM⟩ : ∃ M, N = M + n' + 1 := ⟨N - n' - 1, by omega⟩
    obtain ⟨qh', h1, h2⟩ := inner_b hn ibE ibS i (by omega) n' 0 (m + e + 1) M qh (by omega) hq
    rw [hM]
    have h1' : Ib (m + e + 1) (M + n' + 1) (i : Int) 0 (i * n') qh = Ob (m + e + 1) ((i + 1 : Nat) : Int) ((i + 1) * n') qh' := h1
    rw [h1']
    exact outer_b e (i + 1) m qh' (by omega) h2
include oaE oaS iaE hN in
theorem outer_nil (h0 : n' = 0) : ∀ (e i m : Nat), i + e = n → Oa (m + e + 1) (i : Int) = z
  | 0, i, m, h => by
    obtain rfl : i = n := by omega
    rw [Nat.add_zero, oaE]
  | e + 1, i, m, h => by
    obtain ⟨M, hM⟩ : ∃ M, N = M + 1 := ⟨N - 1, by omega⟩
    rw [show m + (e + 1) + 1 = (m + e + 1) + 1 by omega, oaS i _ (by omega), hM, iaE i _ _ (by omega) h0]
    exact outer_nil h0 e (i + 1) m (by omega)
include hN hn oaE oaS iaE iaS ibE ibS obE obS in
theorem two_loops (hN' : n < N) : (n * n' = 0 → Oa N 0 = z) ∧ (n * n' ≠ 0 → Gives (v (n * n')) (n * n') (fun a => g (a / n') (a % n')) (Oa N 0)) := by
  constructor
  · intro h
    by_cases h1 : n' = 0
    · obtain ⟨M, hM⟩ : ∃ M, N = M + n + 1 := ⟨N - n - 1, by omega⟩
      have := outer_nil hN oaE oaS iaE h1 n 0 M (by omega)
      rw [hM]
      exact this
    · have h2 : n = 0 := by
        rcases Nat.mul_eq_zero.1 h with h | h
        · exact h
        · exact absurd h h1
      subst h2
      obtain ⟨M, hM⟩ : ∃ M, N = M + 1 := ⟨N - 1, by omega⟩
      rw [hM]
      exact oaE M
  · intro h
    have h1 : 0 < n' := by
      rcases Nat.eq_zero_or_pos n' with h' | h'
      · rw [h', Nat.mul_zero] at h; exact absurd rfl h
      · exact h'
    have h2 : 0 < n := by
      rcases Nat.eq_zero_or_pos n with h' | h'
      · rw [h', Nat.zero_mul] at h; exact absurd rfl h
      · exact h'
    obtain ⟨M, hM⟩ : ∃ M, N = M + 1 := ⟨N - 1, by omega⟩
    obtain ⟨M2, hM2⟩ : ∃ M2, M = M2 + (n' - 1) + 1 := ⟨M - n', by omega⟩
    obtain ⟨M3, hM3⟩ : ∃ M3, M = M3 + (n - 1) + 1 := ⟨M - n, by omega⟩
    have s1 : Oa N 0 = Ia M N 0 := by
      have := oaS 0 M h2
      rw [hM] at this ⊢
      exact this
    have s2 : Ia M N 0 = Ib M M 0 1 1 (fun _ => g 0 0) := by
      have := iaS 0 M M h2 h1
      rw [hM]
      exact this
    obtain ⟨qh', h3, h4⟩ := inner_b hn ibE ibS 0 h2 (n' - 1) 1 M M2 (fun _ => g 0 0) (by omega) (fun a c ha hc => by
      have : a = 0 := by omega
      subst this
      rw [Nat.zero_div, Nat.zero_mod])
    rw [← hM2] at h3
    have h3' : Ib M M 0 1 1 (fun _ => g 0 0) = Ob M ((0 + 1 : Nat) : Int) ((0 + 1) * n') qh' := by
      have e : 0 * n' + 1 = 1 := by omega
      rw [e] at h3
      exact h3
    rw [s1, s2, h3']
    have := outer_b hN hn ibE ibS obE obS (n - 1) (0 + 1) M3 qh' (by omega) h4
    rw [← hM3] at this
    exact this
end
/-- functions of two schemes, whose result has no slice where it has no products: told -/
theorem two_toldN {f : Nat} {code : Sch → Sch → Int} {res : Sch → Sch → Sch} {gd : Sch → Sch → Bool} {l : List Ent} {G0 : List AV → Option Ans} (hG : ∀ vs a, G0 vs = some a → ∃ x y s s', vs = [x, y] ∧ sch x = some s ∧ sch y = some s' ∧ a = sAns true (gd s s') (code s s') (res s s')) (hl : ∀ e ∈ l, EntOk e) (hf : tabOf l [] f = none) (ms : Nat → Nat → Rounds)
    (herr : ∀ (p r k c : Int) (n : Nat) (q : Nat → Nat → Int) (p' r' k' c' : Int) (n' : Nat) (q' : Nat → Nat → Int), code ⟨p, r, k, c, n, q⟩ ⟨p', r', k', c', n', q'⟩ ≠ 0 → fnK Try.prog (kc (tabOf l)) 40 (ms n n') f [.agg [I p, I r, I k, I c, .vi .u8 27 n q], .agg [I p', I r', I k', I c', .vi .u8 27 n' q']] done = some (.tup [.agg [I 0, I 0, I 0, I 0, .nilsl], I (code ⟨p, r, k, c, n, q⟩ ⟨p', r', k', c', n', q'⟩)], [], true))
    (hok : ∀ (p r k c : Int) (n : Nat) (q : Nat → Nat → Int) (p' r' k' c' : Int) (n' : Nat) (q' : Nat → Nat → Int), code ⟨p, r, k, c, n, q⟩ ⟨p', r', k', c', n', q'⟩ = 0 → gd ⟨p, r, k, c, n, q⟩ ⟨p', r', k', c', n', q'⟩ = true → ∀ s, res ⟨p, r, k, c, n, q⟩ ⟨p', r', k', c', n', q'⟩ = s →
      (s.n = 0 → fnK Try.prog (kc (tabOf l)) 40 (ms n n') f [.agg [I p, I r, I k, I c, .vi .u8 27 n q], .agg [I p', I r', I k', I c', .vi .u8 27 n' q']] done = some (.tup [.agg [I s.p, I s.r, I s.m, I s.c, .nilsl], I 0], [], true)) ∧
      (s.n ≠ 0 → Gives (.tup [.agg [I s.p, I s.r, I s.m, I s.c, .sl 0 0 s.n s.n], I 0]) s.n s.q (fnK Try.prog (kc (tabOf l)) 40 (ms n n') f [.agg [I p, I r, I k, I c, .vi .u8 27 n q], .agg [I p', I r', I k', I c', .vi .u8 27 n' q']] done))) :
    CEntOk (f, G0) := by
  intro vs a h hv
  obtain ⟨x, y, s, s', rfl, hs, hs', rfl⟩ := hG vs a h
  obtain ⟨p, r, k, c, z, w, rfl, hw, rfl⟩ := sch_eq hs
  obtain ⟨p', r', k', c', z', w', rfl, hw', rfl⟩ := sch_eq hs'
  obtain ⟨n, q⟩ := w
  obtain ⟨n', q'⟩ := w'
  have hw := weak_cons (weak_sch (p := p) (r := r) (k := k) (c := c) hw) (weak_cons (weak_sch (p := p') (r := r') (k := k') (c := c') hw') weak_nil)
  have tr {v : AV} {new new' : List KB} := told_run (l := l) (cl := []) (ml := []) (n := 40) (m := ms n n') (f := f) (vs := [.agg [I p, I r, I k, I c, z], .agg [I p', I r', I k', I c', z']]) (vs' := [.agg [I p, I r, I k, I c, .vi .u8 27 n q], .agg [I p', I r', I k', I c', .vi .u8 27 n' q']]) (v := v) (new := new) (new' := new') hl none_cok none_mok rfl hw rfl hf rfl
  refine sAns_told hv (fun h0 => tr (herr p r k c n q p' r' k' c' n' q' h0) rfl rfl cleanB_nil) (fun h0 hg _ hz => tr ((hok p r k c n q p' r' k' c' n' q' h0 hg _ rfl).1 hz) rfl rfl cleanB_nil) (fun h0 hg hz => ?_)
  obtain ⟨q2, hx, hq⟩ := (hok p r k c n q p' r' k' c' n' q' h0 hg _ rfl).2 (hz rfl)
  exact tr hx (abs_ints hq) rfl (cleanB_ints _ _ _ _ _ _)
theorem codeMul_eq {p r k c : Int} {n : Nat} {q : Nat → Nat → Int} {p' r' k' c' : Int} {n' : Nat} {q' : Nat → Nat → Int} (hB : isB p r k c n q = true) (hB' : isB p' r' k' c' n' q' = true) : codeMultiplySchemes ⟨p, r, k, c, n, q⟩ ⟨p', r', k', c', n', q'⟩ = if p = p' then (if r * r' ≤ 3 ∧ k * k' ≤ 3 ∧ c * c' ≤ 3 ∧ n * n' ≤ 30 then 0 else 3) else 2 := by
  unfold codeMultiplySchemes mulOk
  simp only [hB, hB', Bool.and_self, cond_true]
  by_cases e : p = p' <;> by_cases e1 : r * r' ≤ 3 <;> by_cases e2 : k * k' ≤ 3 <;> by_cases e3 : c * c' ≤ 3 <;> by_cases e4 : n * n' ≤ 30 <;> simp [e, e1, e2, e3, e4]
theorem codeMul0 {p r k c : Int} {n : Nat} {q : Nat → Nat → Int} {p' r' k' c' : Int} {n' : Nat} {q' : Nat → Nat → Int} (h : codeMultiplySchemes ⟨p, r, k, c, n, q⟩ ⟨p', r', k', c', n', q'⟩ = 0) : isB p r k c n q = true ∧ isB p' r' k' c' n' q' = true ∧ p = p' ∧ r * r' ≤ 3 ∧ k * k' ≤ 3 ∧ c * c' ≤ 3 ∧ n * n' ≤ 30 := by
  cases hB : isB p r k c n q with
  | false => unfold codeMultiplySchemes at h; simp [hB] at h
  | true =>
    cases hB' : isB p' r' k' c' n' q' with
    | false => unfold codeMultiplySchemes at h; simp [hB'] at h
    | true =>
      rw [codeMul_eq hB hB'] at h
      refine ⟨rfl, rfl, ?_⟩
      split at h
      · split at h
        · rename_i h1 h2; exact ⟨h1, h2⟩
        · omega
      · omega
theorem mul_pos3 {a b : Int} (h1 : 1 ≤ a ∧ a ≤ 3) (h2 : 1 ≤ b ∧ b ≤ 3) : 1 ≤ a * b ∧ W (a * b) = a * b := ⟨(mul9 h1 h2).1, (mul9 h1 h2).2.2⟩
theorem mulN {n n' : Nat} (h : n ≤ 30) (h' : n' ≤ 30) : W ((n : Int) * (n' : Int)) = ((n * n' : Nat) : Int) ∧ n * n' ≤ 900 := by
  have : n * n' ≤ 30 * 30 := Nat.mul_le_mul h h'
  refine ⟨?_, by omega⟩
  rw [show (n : Int) * (n' : Int) = ((n * n' : Nat) : Int) by simp]
  exact W_of (by omega) (by omega)
section
variable (p r k c : Int) (n : Nat) (q : Nat → Nat → Int) (r' k' c' : Int) (n' : Nat) (q' : Nat → Nat → Int)
theorem specMul_run (hB : isB p r k c n q = true) (hB' : isB p r' k' c' n' q' = true) (hr : rngB n q = true) (hr' : rngB n' q' = true) (h1 : r * r' ≤ 3) (h2 : k * k' ≤ 3) (h3 : c * c' ≤ 3) (N : Nat) (hN : n' < N) (hN' : n < N) :
    (n * n' = 0 → LspecMul_9 p r k c n q p r' k' c' n' q' N N 0 = some (.tup [.agg [I p, I (W (r * r')), I (W (k * k')), I (W (c * c')), .nilsl], I 0], [], true)) ∧ (n * n' ≠ 0 → Gives (.tup [.agg [I p, I (W (r * r')), I (W (k * k')), I (W (c * c')), .sl 0 0 (n * n') (n * n')], I 0]) (n * n') (fun a => mulF p r k c r' k' c' (q (a / n')) (q' (a % n'))) (LspecMul_9 p r k c n q p r' k' c' n' q' N N 0)) := by
  obtain ⟨_, s1, s2, s3, s4, _⟩ := isB_sizes hB
  obtain ⟨_, s1', s2', s3', s4', _⟩ := isB_sizes hB'
  have wA : kronB r k r' k' = true := by unfold kronB; simp only [Bool.and_eq_true, decide_eq_true_eq]; exact ⟨⟨s1.1, s1'.1⟩, ⟨s2.1, s2'.1⟩, ⟨s1.2, s1'.2⟩, ⟨s2.2, s2'.2⟩, h1, h2⟩
  have wB : kronB k c k' c' = true := by unfold kronB; simp only [Bool.and_eq_true, decide_eq_true_eq]; exact ⟨⟨s2.1, s2'.1⟩, ⟨s3.1, s3'.1⟩, ⟨s2.2, s2'.2⟩, ⟨s3.2, s3'.2⟩, h2, h3⟩
  have wC : kronB r c r' c' = true := by unfold kronB; simp only [Bool.and_eq_true, decide_eq_true_eq]; exact ⟨⟨s1.1, s1'.1⟩, ⟨s3.1, s3'.1⟩, ⟨s1.2, s1'.2⟩, ⟨s3.2, s3'.2⟩, h1, h3⟩
  have kA : ∀ i j, i < n → j < n' → (primeB p && (kronB r k r' k' && (mod9 p (pA (q i)) && mod9 p (pA (q' j))))) = true := fun i j hi hj => by
    obtain ⟨hp, a1, b1, c1, _⟩ := mod9_of hB hr hi
    obtain ⟨_, a2, b2, c2, _⟩ := mod9_of hB' hr' hj
    have e : mod9 p (pA (q i)) = true := a1
    rw [hp, wA, e, a2]; rfl
  have kB : ∀ i j, i < n → j < n' → (primeB p && (kronB k c k' c' && (mod9 p (pB (q i)) && mod9 p (pB (q' j))))) = true := fun i j hi hj => by
    obtain ⟨hp, a1, b1, c1, _⟩ := mod9_of hB hr hi
    obtain ⟨_, a2, b2, c2, _⟩ := mod9_of hB' hr' hj
    have e : mod9 p (pB (q i)) = true := b1
    rw [hp, wB, e, b2]; rfl
  have kC : ∀ i j, i < n → j < n' → (primeB p && (kronB r c r' c' && (mod9 p (pC (q i)) && mod9 p (pC (q' j))))) = true := fun i j hi hj => by
    obtain ⟨hp, a1, b1, c1, _⟩ := mod9_of hB hr hi
    obtain ⟨_, a2, b2, c2, _⟩ := mod9_of hB' hr' hj
    have e : mod9 p (pC (q i)) = true := c1
    rw [hp, wC, e, c2]; rfl
  exact two_loops (Oa := fun m x => LspecMul_9 p r k c n q p r' k' c' n' q' N m x) (Ia := fun m1 m x => LspecMul_12 p r k c n q p r' k' c' n' q' N m1 m x) (Ib := fun m1 m x y ny qh => LspecMul_12b p r k c n q p r' k' c' n' q' N m1 m x y ny qh) (Ob := fun m x ny qh => LspecMul_9b p r k c n q p r' k' c' n' q' N m x ny qh) (n := n) (n' := n') (N := N) (z := some (.tup [.agg [I p, I (W (r * r')), I (W (k * k')), I (W (c * c')), .nilsl], I 0], [], true)) (v := fun ny => .tup [.agg [I p, I (W (r * r')), I (W (k * k')), I (W (c * c')), .sl 0 0 ny ny], I 0]) (g := fun i j => mulF p r k c r' k' c' (q i) (q' j)) hN (by have := Nat.mul_le_mul s4 s4'; omega)
    (fun m => by
      show LspecMul_9 p r k c n q p r' k' c' n' q' N (m + 1) (n : Int) = _
      rw [rspecMul_9, bifF (decide_eq_false (Int.lt_irrefl _))])
    (fun i m hi => by
      show LspecMul_9 p r k c n q p r' k' c' n' q' N (m + 1) (i : Int) = LspecMul_12 p r k c n q p r' k' c' n' q' N m N (i : Int)
      rw [rspecMul_9, bifT (decide_eq_true (by omega))])
    (fun i m1 m hi h0 => by
      show LspecMul_12 p r k c n q p r' k' c' n' q' N m1 (m + 1) (i : Int) = LspecMul_9 p r k c n q p r' k' c' n' q' N m1 ((i + 1 : Nat) : Int)
      rw [rspecMul_12, W_succ (show i < 1099511627776 by omega), bifF (decide_eq_false (by omega))])
    (fun i m1 m hi hj => by
      show LspecMul_12 p r k c n q p r' k' c' n' q' N m1 (m + 1) (i : Int) = _
      rw [rspecMul_12, toN, bifT (decide_eq_true (by omega)), chkd ⟨by omega, by omega⟩, chkd ⟨by omega, by omega⟩, chkb (kA i 0 hi hj), chkb (kB i 0 hi hj), chkb (kC i 0 hi hj)]
      rfl)
    (fun i m1 m ny qh hi => by
      show LspecMul_12b p r k c n q p r' k' c' n' q' N m1 (m + 1) (i : Int) (n' : Int) ny qh = LspecMul_9b p r k c n q p r' k' c' n' q' N m1 ((i + 1 : Nat) : Int) ny qh
      rw [rspecMul_12b, W_succ (show i < 1099511627776 by omega), bifF (decide_eq_false (Int.lt_irrefl _))])
    (fun i j m1 m ny qh hi hj hny => by
      show LspecMul_12b p r k c n q p r' k' c' n' q' N m1 (m + 1) (i : Int) (j : Int) ny qh = _
      rw [rspecMul_12b, toN, toN, W_succ (show j < 1099511627776 by omega), bifT (decide_eq_true (by omega)), chkd ⟨by omega, by omega⟩, chkd ⟨by omega, by omega⟩, chkb (kA i j hi hj), chkb (kB i j hi hj), chkb (kC i j hi hj), chkbeq, chkd (by omega), chkd rfl]
      rfl)
    (fun m ny qh => by
      show LspecMul_9b p r k c n q p r' k' c' n' q' N (m + 1) (n : Int) ny qh = _
      rw [rspecMul_9b, bifF (decide_eq_false (Int.lt_irrefl _))]
      rfl)
    (fun i m ny qh hi => by
      show LspecMul_9b p r k c n q p r' k' c' n' q' N (m + 1) (i : Int) ny qh = LspecMul_12b p r k c n q p r' k' c' n' q' N m N (i : Int) 0 ny qh
      rw [rspecMul_9b, bifT (decide_eq_true (by omega))])
    hN'
theorem implMul_run (hB : isB p r k c n q = true) (hB' : isB p r' k' c' n' q' = true) (hr : rngB n q = true) (hr' : rngB n' q' = true) (h1 : r * r' ≤ 3) (h2 : k * k' ≤ 3) (h3 : c * c' ≤ 3) (N : Nat) (hN : n' < N) (hN' : n < N) :
    (n * n' = 0 → LimplMul_10 p r k c n q p r' k' c' n' q' N N 0 = some (.tup [.agg [I p, I (W (r * r')), I (W (k * k')), I (W (c * c')), .nilsl], I 0], [], true)) ∧ (n * n' ≠ 0 → Gives (.tup [.agg [I p, I (W (r * r')), I (W (k * k')), I (W (c * c')), .sl 0 0 (n * n') (n * n')], I 0]) (n * n') (fun a => mulF p r k c r' k' c' (q (a / n')) (q' (a % n'))) (LimplMul_10 p r k c n q p r' k' c' n' q' N N 0)) := by
  obtain ⟨_, s1, s2, s3, s4, _⟩ := isB_sizes hB
  obtain ⟨_, s1', s2', s3', s4', _⟩ := isB_sizes hB'
  have wA : kronB r k r' k' = true := by unfold kronB; simp only [Bool.and_eq_true, decide_eq_true_eq]; exact ⟨⟨s1.1, s1'.1⟩, ⟨s2.1, s2'.1⟩, ⟨s1.2, s1'.2⟩, ⟨s2.2, s2'.2⟩, h1, h2⟩
  have wB : kronB k c k' c' = true := by unfold kronB; simp only [Bool.and_eq_true, decide_eq_true_eq]; exact ⟨⟨s2.1, s2'.1⟩, ⟨s3.1, s3'.1⟩, ⟨s2.2, s2'.2⟩, ⟨s3.2, s3'.2⟩, h2, h3⟩
  have wC : kronB r c r' c' = true := by unfold kronB; simp only [Bool.and_eq_true, decide_eq_true_eq]; exact ⟨⟨s1.1, s1'.1⟩, ⟨s3.1, s3'.1⟩, ⟨s1.2, s1'.2⟩, ⟨s3.2, s3'.2⟩, h1, h3⟩
  have kA : ∀ i j, i < n → j < n' → (primeB p && (kronB r k r' k' && (mod9 p (nthI [q i 0, q i 1, q i 2, q i 3, q i 4, q i 5, q i 6, q i 7, q i 8]) && mod9 p (pA (q' j))))) = true := fun i j hi hj => by
    obtain ⟨hp, a1, b1, c1, _⟩ := mod9_of hB hr hi
    obtain ⟨_, a2, b2, c2, _⟩ := mod9_of hB' hr' hj
    have e : mod9 p (nthI [q i 0, q i 1, q i 2, q i 3, q i 4, q i 5, q i 6, q i 7, q i 8]) = true := a1
    rw [hp, wA, e, a2]; rfl
  have kB : ∀ i j, i < n → j < n' → (primeB p && (kronB k c k' c' && (mod9 p (nthI [q i 9, q i 10, q i 11, q i 12, q i 13, q i 14, q i 15, q i 16, q i 17]) && mod9 p (pB (q' j))))) = true := fun i j hi hj => by
    obtain ⟨hp, a1, b1, c1, _⟩ := mod9_of hB hr hi
    obtain ⟨_, a2, b2, c2, _⟩ := mod9_of hB' hr' hj
    have e : mod9 p (nthI [q i 9, q i 10, q i 11, q i 12, q i 13, q i 14, q i 15, q i 16, q i 17]) = true := b1
    rw [hp, wB, e, b2]; rfl
  have kC : ∀ i j, i < n → j < n' → (primeB p && (kronB r c r' c' && (mod9 p (nthI [q i 18, q i 19, q i 20, q i 21, q i 22, q i 23, q i 24, q i 25, q i 26]) && mod9 p (pC (q' j))))) = true := fun i j hi hj => by
    obtain ⟨hp, a1, b1, c1, _⟩ := mod9_of hB hr hi
    obtain ⟨_, a2, b2, c2, _⟩ := mod9_of hB' hr' hj
    have e : mod9 p (nthI [q i 18, q i 19, q i 20, q i 21, q i 22, q i 23, q i 24, q i 25, q i 26]) = true := c1
    rw [hp, wC, e, c2]; rfl
  exact two_loops (Oa := fun m x => LimplMul_10 p r k c n q p r' k' c' n' q' N m x) (Ia := fun m1 m x => LimplMul_13 p r k c n q p r' k' c' n' q' N m1 m x (q (Int.toNat x) 0) (q (Int.toNat x) 1) (q (Int.toNat x) 2) (q (Int.toNat x) 3) (q (Int.toNat x) 4) (q (Int.toNat x) 5) (q (Int.toNat x) 6) (q (Int.toNat x) 7) (q (Int.toNat x) 8) (q (Int.toNat x) 9) (q (Int.toNat x) 10) (q (Int.toNat x) 11) (q (Int.toNat x) 12) (q (Int.toNat x) 13) (q (Int.toNat x) 14) (q (Int.toNat x) 15) (q (Int.toNat x) 16) (q (Int.toNat x) 17) (q (Int.toNat x) 18) (q (Int.toNat x) 19) (q (Int.toNat x) 20) (q (Int.toNat x) 21) (q (Int.toNat x) 22) (q (Int.toNat x) 23) (q (Int.toNat x) 24) (q (Int.toNat x) 25) (q (Int.toNat x) 26)) (Ib := fun m1 m x y ny qh => LimplMul_13b p r k c n q p r' k' c' n' q' N m1 m x y ny (q (Int.toNat x) 0) (q (Int.toNat x) 1) (q (Int.toNat x) 2) (q (Int.toNat x) 3) (q (Int.toNat x) 4) (q (Int.toNat x) 5) (q (Int.toNat x) 6) (q (Int.toNat x) 7) (q (Int.toNat x) 8) (q (Int.toNat x) 9) (q (Int.toNat x) 10) (q (Int.toNat x) 11) (q (Int.toNat x) 12) (q (Int.toNat x) 13) (q (Int.toNat x) 14) (q (Int.toNat x) 15) (q (Int.toNat x) 16) (q (Int.toNat x) 17) (q (Int.toNat x) 18) (q (Int.toNat x) 19) (q (Int.toNat x) 20) (q (Int.toNat x) 21) (q (Int.toNat x) 22) (q (Int.toNat x) 23) (q (Int.toNat x) 24) (q (Int.toNat x) 25) (q (Int.toNat x) 26) qh) (Ob := fun m x ny qh => LimplMul_10b p r k c n q p r' k' c' n' q' N m x ny qh) (n := n) (n' := n') (N := N) (z := some (.tup [.agg [I p, I (W (r * r')), I (W (k * k')), I (W (c * c')), .nilsl], I 0], [], true)) (v := fun ny => .tup [.agg [I p, I (W (r * r')), I (W (k * k')), I (W (c * c')), .sl 0 0 ny ny], I 0]) (g := fun i j => mulF p r k c r' k' c' (q i) (q' j)) hN (by have := Nat.mul_le_mul s4 s4'; omega)
    (fun m => by
      show LimplMul_10 p r k c n q p r' k' c' n' q' N (m + 1) (n : Int) = _
      rw [rimplMul_10, bifF (decide_eq_false (Int.lt_irrefl _))])
    (fun i m hi => by
      show LimplMul_10 p r k c n q p r' k' c' n' q' N (m + 1) (i : Int) = LimplMul_13 p r k c n q p r' k' c' n' q' N m N (i : Int) (q (Int.toNat (i : Int)) 0) (q (Int.toNat (i : Int)) 1) (q (Int.toNat (i : Int)) 2) (q (Int.toNat (i : Int)) 3) (q (Int.toNat (i : Int)) 4) (q (Int.toNat (i : Int)) 5) (q (Int.toNat (i : Int)) 6) (q (Int.toNat (i : Int)) 7) (q (Int.toNat (i : Int)) 8) (q (Int.toNat (i : Int)) 9) (q (Int.toNat (i : Int)) 10) (q (Int.toNat (i : Int)) 11) (q (Int.toNat (i : Int)) 12) (q (Int.toNat (i : Int)) 13) (q (Int.toNat (i : Int)) 14) (q (Int.toNat (i : Int)) 15) (q (Int.toNat (i : Int)) 16) (q (Int.toNat (i : Int)) 17) (q (Int.toNat (i : Int)) 18) (q (Int.toNat (i : Int)) 19) (q (Int.toNat (i : Int)) 20) (q (Int.toNat (i : Int)) 21) (q (Int.toNat (i : Int)) 22) (q (Int.toNat (i : Int)) 23) (q (Int.toNat (i : Int)) 24) (q (Int.toNat (i : Int)) 25) (q (Int.toNat (i : Int)) 26)
      rw [rimplMul_10, bifT (decide_eq_true (by omega)), chkd ⟨by omega, by omega⟩])
    (fun i m1 m hi h0 => by
      show LimplMul_13 p r k c n q p r' k' c' n' q' N m1 (m + 1) (i : Int) (q (Int.toNat (i : Int)) 0) (q (Int.toNat (i : Int)) 1) (q (Int.toNat (i : Int)) 2) (q (Int.toNat (i : Int)) 3) (q (Int.toNat (i : Int)) 4) (q (Int.toNat (i : Int)) 5) (q (Int.toNat (i : Int)) 6) (q (Int.toNat (i : Int)) 7) (q (Int.toNat (i : Int)) 8) (q (Int.toNat (i : Int)) 9) (q (Int.toNat (i : Int)) 10) (q (Int.toNat (i : Int)) 11) (q (Int.toNat (i : Int)) 12) (q (Int.toNat (i : Int)) 13) (q (Int.toNat (i : Int)) 14) (q (Int.toNat (i : Int)) 15) (q (Int.toNat (i : Int)) 16) (q (Int.toNat (i : Int)) 17) (q (Int.toNat (i : Int)) 18) (q (Int.toNat (i : Int)) 19) (q (Int.toNat (i : Int)) 20) (q (Int.toNat (i : Int)) 21) (q (Int.toNat (i : Int)) 22) (q (Int.toNat (i : Int)) 23) (q (Int.toNat (i : Int)) 24) (q (Int.toNat (i : Int)) 25) (q (Int.toNat (i : Int)) 26) = LimplMul_10 p r k c n q p r' k' c' n' q' N m1 ((i + 1 : Nat) : Int)
      rw [rimplMul_13, W_succ (show i < 1099511627776 by omega), bifF (decide_eq_false (by omega))])
    (fun i m1 m hi hj => by
      show LimplMul_13 p r k c n q p r' k' c' n' q' N m1 (m + 1) (i : Int) (q (Int.toNat (i : Int)) 0) (q (Int.toNat (i : Int)) 1) (q (Int.toNat (i : Int)) 2) (q (Int.toNat (i : Int)) 3) (q (Int.toNat (i : Int)) 4) (q (Int.toNat (i : Int)) 5) (q (Int.toNat (i : Int)) 6) (q (Int.toNat (i : Int)) 7) (q (Int.toNat (i : Int)) 8) (q (Int.toNat (i : Int)) 9) (q (Int.toNat (i : Int)) 10) (q (Int.toNat (i : Int)) 11) (q (Int.toNat (i : Int)) 12) (q (Int.toNat (i : Int)) 13) (q (Int.toNat (i : Int)) 14) (q (Int.toNat (i : Int)) 15) (q (Int.toNat (i : Int)) 16) (q (Int.toNat (i : Int)) 17) (q (Int.toNat (i : Int)) 18) (q (Int.toNat (i : Int)) 19) (q (Int.toNat (i : Int)) 20) (q (Int.toNat (i : Int)) 21) (q (Int.toNat (i : Int)) 22) (q (Int.toNat (i : Int)) 23) (q (Int.toNat (i : Int)) 24) (q (Int.toNat (i : Int)) 25) (q (Int.toNat (i : Int)) 26) = _
      rw [rimplMul_13, toN, bifT (decide_eq_true (by omega)), chkd ⟨by omega, by omega⟩, chkb (kA i 0 hi hj), chkb (kB i 0 hi hj), chkb (kC i 0 hi hj)]
      rfl)
    (fun i m1 m ny qh hi => by
      show LimplMul_13b p r k c n q p r' k' c' n' q' N m1 (m + 1) (i : Int) (n' : Int) ny (q (Int.toNat (i : Int)) 0) (q (Int.toNat (i : Int)) 1) (q (Int.toNat (i : Int)) 2) (q (Int.toNat (i : Int)) 3) (q (Int.toNat (i : Int)) 4) (q (Int.toNat (i : Int)) 5) (q (Int.toNat (i : Int)) 6) (q (Int.toNat (i : Int)) 7) (q (Int.toNat (i : Int)) 8) (q (Int.toNat (i : Int)) 9) (q (Int.toNat (i : Int)) 10) (q (Int.toNat (i : Int)) 11) (q (Int.toNat (i : Int)) 12) (q (Int.toNat (i : Int)) 13) (q (Int.toNat (i : Int)) 14) (q (Int.toNat (i : Int)) 15) (q (Int.toNat (i : Int)) 16) (q (Int.toNat (i : Int)) 17) (q (Int.toNat (i : Int)) 18) (q (Int.toNat (i : Int)) 19) (q (Int.toNat (i : Int)) 20) (q (Int.toNat (i : Int)) 21) (q (Int.toNat (i : Int)) 22) (q (Int.toNat (i : Int)) 23) (q (Int.toNat (i : Int)) 24) (q (Int.toNat (i : Int)) 25) (q (Int.toNat (i : Int)) 26) qh = LimplMul_10b p r k c n q p r' k' c' n' q' N m1 ((i + 1 : Nat) : Int) ny qh
      rw [rimplMul_13b, W_succ (show i < 1099511627776 by omega), bifF (decide_eq_false (Int.lt_irrefl _))])
    (fun i j m1 m ny qh hi hj hny => by
      show LimplMul_13b p r k c n q p r' k' c' n' q' N m1 (m + 1) (i : Int) (j : Int) ny (q (Int.toNat (i : Int)) 0) (q (Int.toNat (i : Int)) 1) (q (Int.toNat (i : Int)) 2) (q (Int.toNat (i : Int)) 3) (q (Int.toNat (i : Int)) 4) (q (Int.toNat (i : Int)) 5) (q (Int.toNat (i : Int)) 6) (q (Int.toNat (i : Int)) 7) (q (Int.toNat (i : Int)) 8) (q (Int.toNat (i : Int)) 9) (q (Int.toNat (i : Int)) 10) (q (Int.toNat (i : Int)) 11) (q (Int.toNat (i : Int)) 12) (q (Int.toNat (i : Int)) 13) (q (Int.toNat (i : Int)) 14) (q (Int.toNat (i : Int)) 15) (q (Int.toNat (i : Int)) 16) (q (Int.toNat (i : Int)) 17) (q (Int.toNat (i : Int)) 18) (q (Int.toNat (i : Int)) 19) (q (Int.toNat (i : Int)) 20) (q (Int.toNat (i : Int)) 21) (q (Int.toNat (i : Int)) 22) (q (Int.toNat (i : Int)) 23) (q (Int.toNat (i : Int)) 24) (q (Int.toNat (i : Int)) 25) (q (Int.toNat (i : Int)) 26) qh = _
      rw [rimplMul_13b, toN, toN, W_succ (show j < 1099511627776 by omega), bifT (decide_eq_true (by omega)), chkd ⟨by omega, by omega⟩, chkb (kA i j hi hj), chkb (kB i j hi hj), chkb (kC i j hi hj), chkbeq, chkd (by omega), chkd rfl]
      rfl)
    (fun m ny qh => by
      show LimplMul_10b p r k c n q p r' k' c' n' q' N (m + 1) (n : Int) ny qh = _
      rw [rimplMul_10b, bifF (decide_eq_false (Int.lt_irrefl _))]
      rfl)
    (fun i m ny qh hi => by
      show LimplMul_10b p r k c n q p r' k' c' n' q' N (m + 1) (i : Int) ny qh = LimplMul_13b p r k c n q p r' k' c' n' q' N m N (i : Int) 0 ny (q (Int.toNat (i : Int)) 0) (q (Int.toNat (i : Int)) 1) (q (Int.toNat (i : Int)) 2) (q (Int.toNat (i : Int)) 3) (q (Int.toNat (i : Int)) 4) (q (Int.toNat (i : Int)) 5) (q (Int.toNat (i : Int)) 6) (q (Int.toNat (i : Int)) 7) (q (Int.toNat (i : Int)) 8) (q (Int.toNat (i : Int)) 9) (q (Int.toNat (i : Int)) 10) (q (Int.toNat (i : Int)) 11) (q (Int.toNat (i : Int)) 12) (q (Int.toNat (i : Int)) 13) (q (Int.toNat (i : Int)) 14) (q (Int.toNat (i : Int)) 15) (q (Int.toNat (i : Int)) 16) (q (Int.toNat (i : Int)) 17) (q (Int.toNat (i : Int)) 18) (q (Int.toNat (i : Int)) 19) (q (Int.toNat (i : Int)) 20) (q (Int.toNat (i : Int)) 21) (q (Int.toNat (i : Int)) 22) (q (Int.toNat (i : Int)) 23) (q (Int.toNat (i : Int)) 24) (q (Int.toNat (i : Int)) 25) (q (Int.toNat (i : Int)) 26) qh
      rw [rimplMul_10b, bifT (decide_eq_true (by omega)), chkd ⟨by omega, by omega⟩])
    hN'
end
theorem ce_specMultiplySchemes_ok : CEntOk ce_specMultiplySchemes := by
  refine two_toldN (code := codeMultiplySchemes) (res := resMultiplySchemes) (gd := fun a b => rngB a.n a.q && rngB b.n b.q) (l := [e_l01Is, e_l02Form]) (fun vs a h => by
    unfold g_mul at h
    split at h
    · rename_i x y
      simp only [Option.bind_eq_some_iff, Option.map_eq_some_iff] at h
      obtain ⟨s, hs, s', hs', rfl⟩ := h
      exact ⟨x, y, s, s', rfl, hs, hs', rfl⟩
    · cases h) (by simp [l01Is_ok, l02Form_ok]) rfl (fun n n' => rnd [] 40 (n + n' + 1)) ?_ ?_
  · intro p r k c n q p' r' k' c' n' q' h0
    refine (sspecMul p r k c n q p' r' k' c' n' q' (n + n' + 1)).trans ?_
    cases hB : isB p r k c n q with
    | false => exact (bifT rfl _ _).trans (errL (by unfold codeMultiplySchemes; simp only [hB]; rfl))
    | true =>
      rw [bifF (show (!true) = false from rfl)]
      cases hB' : isB p' r' k' c' n' q' with
      | false => exact (bifT rfl _ _).trans (errL (by unfold codeMultiplySchemes; simp only [hB, hB']; rfl))
      | true =>
        obtain ⟨_, s1, s2, s3, s4, _⟩ := isB_sizes hB
        obtain ⟨_, s1', s2', s3', s4', _⟩ := isB_sizes hB'
        have m1 := mul_pos3 s1 s1'
        have m2 := mul_pos3 s2 s2'
        have m3 := mul_pos3 s3 s3'
        obtain ⟨m4, m5⟩ := mulN s4 s4'
        rw [codeMul_eq hB hB'] at h0 ⊢
        rw [bifF (show (!true) = false from rfl)]
        by_cases e0 : p = p'
        rotate_left
        · exact (bifT (show (!decide (p = p')) = true by simp [e0]) _ _).trans (errL (by simp [e0]))
        rw [bifF (show (!decide (p = p')) = false by simp [e0])]
        simp only [e0, if_true] at h0 ⊢
        have h3 : ¬ (r * r' ≤ 3 ∧ k * k' ≤ 3 ∧ c * c' ≤ 3 ∧ n * n' ≤ 30) := fun h => h0 (by simp [h])
        have eC : (if r * r' ≤ 3 ∧ k * k' ≤ 3 ∧ c * c' ≤ 3 ∧ n * n' ≤ 30 then (0 : Int) else 3) = 3 := by simp [h3]
        rw [eC]
        rw [m1.2, m2.2, m3.2, m4]
        by_cases g1 : 3 < r * r'
        · exact bifT (decide_eq_true g1) _ _
        rw [bifF (decide_eq_false g1)]
        by_cases g2 : 3 < k * k'
        · exact bifT (decide_eq_true g2) _ _
        rw [bifF (decide_eq_false g2)]
        by_cases g3 : 3 < c * c'
        · exact bifT (decide_eq_true g3) _ _
        rw [bifF (decide_eq_false g3)]
        have g4 : (30 : Int) < ((n * n' : Nat) : Int) := by
          have : ¬ n * n' ≤ 30 := fun h => h3 ⟨by omega, by omega, by omega, h⟩
          omega
        exact bifT (decide_eq_true g4) _ _
  · rintro p r k c n q p' r' k' c' n' q' h0 hg s rfl
    simp only [Bool.and_eq_true] at hg
    obtain ⟨hB, hB', rfl, h1, h2, h3, h4⟩ := codeMul0 h0
    obtain ⟨_, s1, s2, s3, s4, _⟩ := isB_sizes hB
    obtain ⟨_, s1', s2', s3', s4', _⟩ := isB_sizes hB'
    have m1 := mul_pos3 s1 s1'
    have m2 := mul_pos3 s2 s2'
    have m3 := mul_pos3 s3 s3'
    obtain ⟨m4, m5⟩ := mulN s4 s4'
    have run := specMul_run p r k c n q r' k' c' n' q' hB hB' hg.1 hg.2 h1 h2 h3 (n + n' + 1) (by omega) (by omega)
    rw [m1.2, m2.2, m3.2] at run
    have e : fnK Try.prog (kc (tabOf [e_l01Is, e_l02Form])) 40 ((fun n n' => rnd [] 40 (n + n' + 1)) n n') ce_specMultiplySchemes.1 [.agg [I p, I r, I k, I c, .vi .u8 27 n q], .agg [I p, I r', I k', I c', .vi .u8 27 n' q']] done = LspecMul_9 p r k c n q p r' k' c' n' q' (n + n' + 1) (n + n' + 1) 0 := by
      refine (sspecMul p r k c n q p r' k' c' n' q' (n + n' + 1)).trans ?_
      rw [m1.2, m2.2, m3.2, m4, bifF (show (!isB p r k c n q) = false by rw [hB]; rfl), bifF (show (!isB p r' k' c' n' q') = false by rw [hB']; rfl), bifF (show (!decide (p = p)) = false by simp)]
      rw [bifF (decide_eq_false (show ¬ 3 < r * r' by omega)), bifF (decide_eq_false (show ¬ 3 < k * k' by omega)), bifF (decide_eq_false (show ¬ 3 < c * c' by omega)), bifF (decide_eq_false (show ¬ (30 : Int) < ((n * n' : Nat) : Int) by omega))]
    have e' := e
    refine ⟨fun hz => e.trans (run.1 hz), fun hz => ?_⟩
    have := run.2 hz
    rw [← e] at this
    exact this
theorem ce_implMultiplySchemes_ok : CEntOk ce_implMultiplySchemes := by
  refine two_toldN (code := codeMultiplySchemes) (res := resMultiplySchemes) (gd := fun a b => rngB a.n a.q && rngB b.n b.q) (l := [e_IsScheme, e_isSize, e_kronecker]) (fun vs a h => by
    unfold g_mul at h
    split at h
    · rename_i x y
      simp only [Option.bind_eq_some_iff, Option.map_eq_some_iff] at h
      obtain ⟨s, hs, s', hs', rfl⟩ := h
      exact ⟨x, y, s, s', rfl, hs, hs', rfl⟩
    · cases h) (by simp [IsScheme_ok, isSize_ok, kronecker_ok]) rfl (fun n n' => rnd [2] 5 (n + n' + 1)) ?_ ?_
  · intro p r k c n q p' r' k' c' n' q' h0
    refine (simplMul p r k c n q p' r' k' c' n' q' (n + n' + 1)).trans ?_
    cases hB : isB p r k c n q with
    | false => exact (bifT rfl _ _).trans (errL (by unfold codeMultiplySchemes; simp only [hB]; rfl))
    | true =>
      rw [bifF (show (!true) = false from rfl)]
      cases hB' : isB p' r' k' c' n' q' with
      | false => exact (bifT rfl _ _).trans (errL (by unfold codeMultiplySchemes; simp only [hB, hB']; rfl))
      | true =>
        obtain ⟨_, s1, s2, s3, s4, _⟩ := isB_sizes hB
        obtain ⟨_, s1', s2', s3', s4', _⟩ := isB_sizes hB'
        have m1 := mul_pos3 s1 s1'
        have m2 := mul_pos3 s2 s2'
        have m3 := mul_pos3 s3 s3'
        obtain ⟨m4, m5⟩ := mulN s4 s4'
        rw [codeMul_eq hB hB'] at h0 ⊢
        rw [bifF (show (!true) = false from rfl)]
        by_cases e0 : p = p'
        rotate_left
        · exact (bifT (show (!decide (p = p')) = true by simp [e0]) _ _).trans (errL (by simp [e0]))
        rw [bifF (show (!decide (p = p')) = false by simp [e0])]
        simp only [e0, if_true] at h0 ⊢
        have h3 : ¬ (r * r' ≤ 3 ∧ k * k' ≤ 3 ∧ c * c' ≤ 3 ∧ n * n' ≤ 30) := fun h => h0 (by simp [h])
        have eC : (if r * r' ≤ 3 ∧ k * k' ≤ 3 ∧ c * c' ≤ 3 ∧ n * n' ≤ 30 then (0 : Int) else 3) = 3 := by simp [h3]
        rw [eC]
        rw [m1.2, m2.2, m3.2, m4]
        by_cases g1 : r * r' ≤ 3 ∧ k * k' ≤ 3 ∧ c * c' ≤ 3
        rotate_left
        · refine bifT ?_ _ _
          have : ¬ (sizeB (r * r') && (sizeB (k * k') && sizeB (c * c'))) = true := fun h => by
            unfold sizeB at h
            simp only [Bool.and_eq_true, decide_eq_true_eq] at h
            exact g1 ⟨h.1.2, h.2.1.2, h.2.2.2⟩
          simp only [Bool.not_eq_true] at this
          rw [this]; rfl
        rw [bifF (show (!(sizeB (r * r') && (sizeB (k * k') && sizeB (c * c')))) = false by
          have : (sizeB (r * r') && (sizeB (k * k') && sizeB (c * c'))) = true := by
            unfold sizeB
            simp only [Bool.and_eq_true, decide_eq_true_eq]
            exact ⟨⟨m1.1, g1.1⟩, ⟨m2.1, g1.2.1⟩, m3.1, g1.2.2⟩
          rw [this]; rfl)]
        have g4 : (30 : Int) < ((n * n' : Nat) : Int) := by
          have : ¬ n * n' ≤ 30 := fun h => h3 ⟨g1.1, g1.2.1, g1.2.2, h⟩
          omega
        exact bifT (decide_eq_true g4) _ _
  · rintro p r k c n q p' r' k' c' n' q' h0 hg s rfl
    simp only [Bool.and_eq_true] at hg
    obtain ⟨hB, hB', rfl, h1, h2, h3, h4⟩ := codeMul0 h0
    obtain ⟨_, s1, s2, s3, s4, _⟩ := isB_sizes hB
    obtain ⟨_, s1', s2', s3', s4', _⟩ := isB_sizes hB'
    have m1 := mul_pos3 s1 s1'
    have m2 := mul_pos3 s2 s2'
    have m3 := mul_pos3 s3 s3'
    obtain ⟨m4, m5⟩ := mulN s4 s4'
    have run := implMul_run p r k c n q r' k' c' n' q' hB hB' hg.1 hg.2 h1 h2 h3 (n + n' + 1) (by omega) (by omega)
    rw [m1.2, m2.2, m3.2] at run
    have e : fnK Try.prog (kc (tabOf [e_IsScheme, e_isSize, e_kronecker])) 40 ((fun n n' => rnd [2] 5 (n + n' + 1)) n n') ce_implMultiplySchemes.1 [.agg [I p, I r, I k, I c, .vi .u8 27 n q], .agg [I p, I r', I k', I c', .vi .u8 27 n' q']] done = LimplMul_10 p r k c n q p r' k' c' n' q' (n + n' + 1) (n + n' + 1) 0 := by
      refine (simplMul p r k c n q p r' k' c' n' q' (n + n' + 1)).trans ?_
      rw [m1.2, m2.2, m3.2, m4, bifF (show (!isB p r k c n q) = false by rw [hB]; rfl), bifF (show (!isB p r' k' c' n' q') = false by rw [hB']; rfl), bifF (show (!decide (p = p)) = false by simp)]
      rw [bifF (show (!(sizeB (r * r') && (sizeB (k * k') && sizeB (c * c')))) = false by
          have : (sizeB (r * r') && (sizeB (k * k') && sizeB (c * c'))) = true := by
            unfold sizeB
            simp only [Bool.and_eq_true, decide_eq_true_eq]
            exact ⟨⟨m1.1, h1⟩, ⟨m2.1, h2⟩, m3.1, h3⟩
          rw [this]; rfl), bifF (decide_eq_false (show ¬ (30 : Int) < ((n * n' : Nat) : Int) by omega))]
    have e' := e
    refine ⟨fun hz => e.trans (run.1 hz), fun hz => ?_⟩
    have := run.2 hz
    rw [← e] at this
    exact this
theorem mMultiplySchemes_fact {x y : Sch} (h : codeMultiplySchemes x y = 0) : (resMultiplySchemes x y).n ≤ 1048576 := by
  have := (codeMul0 (p := x.p) (r := x.r) (k := x.m) (c := x.c) (n := x.n) (q := x.q) (p' := y.p) (r' := y.r) (k' := y.m) (c' := y.c) (n' := y.n) (q' := y.q) h).2.2.2.2.2.2
  show x.n * y.n ≤ 1048576
  omega
end Go.Proofs.Ytpjhlkidebcllaa.Fn
