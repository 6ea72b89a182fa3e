/- What is told of the sides of an equation is so. -/
import Derived.Test.YtjdciikfbinchaaFb
import Derived.Test.YtjdciikfbinchaaEb
import Derived.Test.YtjdciikfbinchaaDg
namespace Go.Proofs.Ytjdciikfbinchaa.Fn
open Go Go.Proofs.Ytjdciikfbinchaa.Abs
set_option maxRecDepth 100000

section
variable (p r k c : Int) (n : Nat) (q : Nat → Nat → Int) (a b d : Int)
theorem places_tree {x y z : Int} (a b d : Int) (hx : 1 ≤ x ∧ x ≤ 9) (hy : 1 ≤ y ∧ y ≤ 9) (hz : 1 ≤ z ∧ z ≤ 9) :
    (bif (decide (0 ≤ a)) then (bif (!(decide (a ≤ (W (x - 1))))) then some (I 2, ([] : List KB), true) else
      bif (decide (0 ≤ b)) then (bif (!(decide (b ≤ (W (y - 1))))) then some (I 2, [], true) else
        bif (decide (0 ≤ d)) then (bif (!(decide (d ≤ (W (z - 1))))) then some (I 2, [], true) else
          some (I 0, [], true)) else
        some (I 2, [], true)) else
      some (I 2, [], true)) else
    some (I 2, [], true)) = some (I (bif inR a x && (inR b y && inR d z) then 0 else 2), [], true) := by
  rw [W_of (n := x - 1) (by omega) (by omega), W_of (n := y - 1) (by omega) (by omega), W_of (n := z - 1) (by omega) (by omega)]
  have e : ∀ u v : Int, decide (u ≤ v - 1) = decide (u < v) := fun u v => decide_eq_decide.2 (by omega)
  simp only [e]
  unfold inR
  cases decide (0 ≤ a) <;> cases decide (a < x) <;> cases decide (0 ≤ b) <;> cases decide (b < y) <;> cases decide (0 ≤ d) <;> cases decide (d < z) <;> rfl
theorem l01Places_c : fnK Try.prog (kc (tabOf [e_l01Is])) 40 (rnd [] 40 0) 76 [.agg [I p, I r, I k, I c, .vi .u8 27 n q], I a, I b, I d] done = some (I (codeB (isB p r k c n q) r k c a b d), [], true) := by
  refine (sl01Places p r k c n q a b d 0).trans ?_
  unfold codeB
  cases h : isB p r k c n q with
  | false => rfl
  | true =>
    obtain ⟨_, h1, h2, h3, _⟩ := isB_sizes h
    obtain ⟨a1, a2, a3⟩ := mul9 h1 h2
    obtain ⟨b1, b2, b3⟩ := mul9 h2 h3
    obtain ⟨c1, c2, c3⟩ := mul9 h1 h3
    rw [a3, b3, c3]
    exact places_tree a b d ⟨a1, a2⟩ ⟨b1, b2⟩ ⟨c1, c2⟩
theorem equationCode_c : fnK Try.prog (kc (tabOf [e_IsScheme])) 40 (rnd [4] 5 0) 78 [.agg [I p, I r, I k, I c, .vi .u8 27 n q], .vs 1 [[I a], [I b], [I d]]] done = some (I (codeB (isB p r k c n q) r k c a b d), [], true) := by
  refine (sequationCode p r k c n q a b d 0).trans ?_
  unfold codeB inR
  simp only [lt_not]
  cases isB p r k c n q <;> cases decide (0 ≤ a) <;> cases decide (W (r * k) ≤ a) <;> cases decide (0 ≤ b) <;> cases decide (W (k * c) ≤ b) <;> cases decide (0 ≤ d) <;> cases decide (W (r * c) ≤ d) <;> rfl
theorem want_tree (hk : k ≠ 0) (hc : c ≠ 0) :
    (chkn (decide (k = 0)) <|
    chkn (decide (c = 0)) <|
    bif (decide ((Int.tmod a k) = (W (Int.tdiv b c)))) then (chkn (decide (k = 0)) <|
      chkn (decide (c = 0)) <|
      bif (decide ((W (Int.tdiv a k)) = (W (Int.tdiv d c)))) then (chkn (decide (c = 0)) <|
        chkn (decide (c = 0)) <|
        bif (decide ((Int.tmod b c) = (Int.tmod d c))) then (some (I 1, [], true)) else
        some (I 0, [], true)) else
      some (I 0, [], true)) else
    some (I 0, [], true)) = some (I (wantB k c a b d), [], true) := by
  simp only [chkn, hk, hc, decide_false, cond_false]
  unfold wantB
  cases decide ((Int.tmod a k) = (W (Int.tdiv b c))) <;> cases decide ((W (Int.tdiv a k)) = (W (Int.tdiv d c))) <;> cases decide ((Int.tmod b c) = (Int.tmod d c)) <;> rfl
end
theorem l01Places_ok : EntOk e_l01Places := by
  intro vs v new h
  unfold e_l01Places at h
  simp only at h
  split at h
  · rename_i p r k c x a b d
    simp only [Option.map_eq_some_iff, Prod.mk.injEq, Bool.and_eq_true, decide_eq_true_eq] at h
    obtain ⟨y, hy, _, rfl, rfl⟩ := h
    exact ent_run (l := [e_l01Is]) (vs' := [.agg [I p, I r, I k, I c, .vi .u8 27 y.1 y.2], I a, I b, I d]) (by simp [l01Is_ok]) rfl (weak_cons (weak_sch hy) (same_weak (vs := [I a, I b, I d]))) rfl rfl (l01Places_c p r k c y.1 y.2 a b d) rfl cleanB_nil
  · cases h
theorem equationCode_ok : EntOk e_equationCode := by
  intro vs v new h
  unfold e_equationCode at h
  simp only at h
  split at h
  · rename_i p r k c x a b d
    simp only [Option.map_eq_some_iff, Prod.mk.injEq, true_and] at h
    obtain ⟨y, hy, rfl, rfl⟩ := h
    exact ent_run (l := [e_IsScheme]) (vs' := [.agg [I p, I r, I k, I c, .vi .u8 27 y.1 y.2], .vs 1 [[I a], [I b], [I d]]]) (by simp [IsScheme_ok]) rfl (weak_cons (weak_sch hy) (same_weak (vs := [.vs 1 [[I a], [I b], [I d]]]))) rfl rfl (equationCode_c p r k c y.1 y.2 a b d) rfl cleanB_nil
  · cases h
theorem want_ok {f : Nat} (h : ∀ (p r k c : Int) (n : Nat) (q : Nat → Nat → Int) (a b d : Int), k ≠ 0 → c ≠ 0 → Tells Try.prog f [.agg [I p, I r, I k, I c, .vi .u8 27 n q], I a, I b, I d] (I (wantB k c a b d)) []) : EntOk (f, g_want) := by
  intro vs v new hv
  unfold g_want at hv
  simp only at hv
  split at hv
  · rename_i p r k c x a b d
    simp only [Option.map_eq_some_iff, Prod.mk.injEq, Bool.and_eq_true, Bool.not_eq_true', decide_eq_false_iff_not] at hv
    obtain ⟨y, hy, ⟨h1, h2⟩, rfl, rfl⟩ := hv
    exact ⟨[.agg [I p, I r, I k, I c, .vi .u8 27 y.1 y.2], I a, I b, I d], _, _, rfl, weak_cons (weak_sch hy) (same_weak (vs := [I a, I b, I d])), rfl, h p r k c y.1 y.2 a b d h1 h2, .inl ⟨rfl, rfl, rfl, cleanB_nil⟩⟩
  · cases hv
theorem l01Want_ok : EntOk e_l01Want := want_ok fun p r k c n q a b d hk hc => fnK_sem mixed plain (tabOf_ok none_ok) (KMTOk.none _) rfl rfl ((sl01Want p r k c n q a b d 0).trans (want_tree k c a b d hk hc))
theorem rightSide_ok : EntOk e_rightSide := want_ok fun p r k c n q a b d hk hc => fnK_sem mixed plain (tabOf_ok none_ok) (KMTOk.none _) rfl rfl ((srightSide p r k c n q a b d 0).trans (want_tree k c a b d hk hc))

/-! ### left sides -/
theorem left_ok {f : Nat} (h : ∀ (p r k c : Int) (n : Nat) (q : Nat → Nat → Int) (a b d : Nat), p ≠ 0 → n ≤ 30 → a < 9 → b < 9 → d < 9 → Tells Try.prog f [.agg [I p, I r, I k, I c, .vi .u8 27 n q], I a, I b, I d] (I (Int.tmod (sumL q a b d 0 n 0) p)) []) : EntOk (f, g_left) := by
  intro vs v new hv
  unfold g_left at hv
  simp only at hv
  split at hv
  · rename_i p r k c x a b d
    simp only [inR, Option.map_eq_some_iff, Prod.mk.injEq, Bool.and_eq_true, Bool.not_eq_true', decide_eq_false_iff_not, decide_eq_true_eq] at hv
    obtain ⟨y, hy, ⟨h1, h2, ⟨h3, h4⟩, ⟨h5, h6⟩, h7, h8⟩, rfl, rfl⟩ := hv
    obtain ⟨a, rfl⟩ := Int.eq_ofNat_of_zero_le h3
    obtain ⟨b, rfl⟩ := Int.eq_ofNat_of_zero_le h5
    obtain ⟨d, rfl⟩ := Int.eq_ofNat_of_zero_le h7
    exact ⟨[.agg [I p, I r, I k, I c, .vi .u8 27 y.1 y.2], I a, I b, I d], _, _, rfl, weak_cons (weak_sch hy) (same_weak (vs := [I a, I b, I d])), rfl, h p r k c y.1 y.2 a b d h1 h2 (by omega) (by omega) (by omega), .inl ⟨rfl, rfl, rfl, cleanB_nil⟩⟩
  · cases hv
section
variable (p r k c : Int) (n : Nat) (q : Nat → Nat → Int) (a b d : Nat) (hp : p ≠ 0) (hn : n ≤ 30) (ha : a < 9) (hb : b < 9) (hd : d < 9)
include hp hn ha hb hd
theorem l01Sum_loop (N : Nat) : ∀ (m i j : Nat) (s : Int), i + m = n → Ll01Sum_3 p r k c n q a b d N (j + m + 1) s (i : Int) = some (I (Int.tmod (sumL q a b d i m s) p), [], true)
  | 0, i, j, s, h => by
    have h1 : ¬ ((i : Int) < (n : Int)) := by omega
    rw [rl01Sum_3]
    simp only [h1, hp, chkn, decide_false, cond_false, sumL]
  | m + 1, i, j, s, h => by
    have h1 : (i : Int) < (n : Int) := by omega
    have ih := fun s => l01Sum_loop N m (i + 1) j s (by omega)
    rw [show j + (m + 1) + 1 = (j + m + 1) + 1 by omega, rl01Sum_3]
    simp only [h1, (show (0 : Int) ≤ (i : Int) by omega), (show (0 : Int) ≤ (a : Int) by omega), (show (0 : Int) ≤ (b : Int) by omega), (show (0 : Int) ≤ (d : Int) by omega), (show (a : Int) < 9 by omega), (show (b : Int) < 9 by omega), (show (d : Int) < 9 by omega),
      toN, Nat.mul_one, Nat.zero_add, (show a < 27 by omega), (show 9 + b < 27 by omega), (show 18 + d < 27 by omega), and_self, chk, decide_true, cond_true, nth0 (q i) (show a < 27 by omega), nth0 (q i) (show 9 + b < 27 by omega), nth0 (q i) (show 18 + d < 27 by omega), W_succ (show i < 1099511627776 by omega), ih, sumL]
theorem leftSide_loop (N : Nat) : ∀ (m i j : Nat) (s : Int), i + m = n → LleftSide_3 p r k c n q a b d N (j + m + 1) s (i : Int) = some (I (Int.tmod (sumL q a b d i m s) p), [], true)
  | 0, i, j, s, h => by
    have h1 : ¬ ((i : Int) < (n : Int)) := by omega
    rw [rleftSide_3]
    simp only [h1, hp, chkn, decide_false, cond_false, sumL]
  | m + 1, i, j, s, h => by
    have h1 : (i : Int) < (n : Int) := by omega
    have ih := fun s => leftSide_loop N m (i + 1) j s (by omega)
    rw [show j + (m + 1) + 1 = (j + m + 1) + 1 by omega, rleftSide_3]
    simp only [h1, (show (0 : Int) ≤ (i : Int) by omega), (show (0 : Int) ≤ (a : Int) by omega), (show (0 : Int) ≤ (b : Int) by omega), (show (0 : Int) ≤ (d : Int) by omega), (show (a : Int) < 9 by omega), (show (b : Int) < 9 by omega), (show (d : Int) < 9 by omega),
      toN, Nat.mul_one, Nat.zero_add, (show a < 27 by omega), (show 9 + b < 27 by omega), (show 18 + d < 27 by omega), and_self, chk, decide_true, cond_true, nth0 (q i) (show a < 27 by omega), nth0 (q i) (show 9 + b < 27 by omega), nth0 (q i) (show 18 + d < 27 by omega), W_succ (show i < 1099511627776 by omega), ih, sumL]
end
theorem l01Sum_ok : EntOk e_l01Sum := left_ok fun p r k c n q a b d hp hn ha hb hd => fnK_sem mixed plain (tabOf_ok none_ok) (KMTOk.none _) (m := rnd [] 40 (n + 1)) rfl rfl ((sl01Sum p r k c n q a b d (n + 1)).trans (by
    have := l01Sum_loop p r k c n q a b d hp hn ha hb hd (n + 1) n 0 0 0 (by omega)
    rwa [Nat.zero_add] at this))
theorem leftSide_ok : EntOk e_leftSide := left_ok fun p r k c n q a b d hp hn ha hb hd => fnK_sem mixed plain (tabOf_ok none_ok) (KMTOk.none _) (m := rnd [] 40 (n + 1)) rfl rfl ((sleftSide p r k c n q a b d (n + 1)).trans (by
    have := leftSide_loop p r k c n q a b d hp hn ha hb hd (n + 1) n 0 0 0 (by omega)
    rwa [Nat.zero_add] at this))
end Go.Proofs.Ytjdciikfbinchaa.Fn
