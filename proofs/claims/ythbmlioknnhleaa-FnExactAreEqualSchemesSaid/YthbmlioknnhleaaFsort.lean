/- What is told of the reference's sorted schemes is so. -/
import Derived.Test.YthbmlioknnhleaaFg
import Derived.Test.YthbmlioknnhleaaDsort
import Derived.Test.YthbmlioknnhleaaEsrt
import Derived.Test.YthbmlioknnhleaaEless
namespace Go.Proofs.Ythbmlioknnhleaa.Fn
open Go Go.Proofs.Ythbmlioknnhleaa.Abs
set_option maxRecDepth 100000
set_option linter.unusedVariables false
set_option linter.unusedSimpArgs false
theorem lexF_congr {x x' y y' : Nat → Int} : ∀ (d i : Nat), (∀ c, i ≤ c → c < i + d → x c = x' c ∧ y c = y' c) → lexF x y i d = lexF x' y' i d
  | 0, i, _ => rfl
  | d + 1, i, h => by
    obtain ⟨h1, h2⟩ := h i (Nat.le_refl _) (by omega)
    simp only [lexF, h1, h2, lexF_congr d (i + 1) fun c a b => h c (by omega) (by omega)]
theorem lessP_congr {x x' y y' : Nat → Int} (hx : ∀ c, c < 27 → x c = x' c) (hy : ∀ c, c < 27 → y c = y' c) : lessP x y = lessP x' y' := lexF_congr 27 0 fun c _ h => ⟨hx c (by omega), hy c (by omega)⟩
theorem posL_le (q : Nat → Nat → Int) (i : Nat) : ∀ L : List Nat, posL q i L ≤ L.length
  | [] => Nat.le_refl _
  | j :: l => by
    have := posL_le q i l
    simp only [posL]
    cases lessP (q i) (q j)
    · simp only [cond_false, List.length_cons]; omega
    · simp only [cond_true]; omega
theorem insL_len (q : Nat → Nat → Int) (i : Nat) (L : List Nat) : (insL q i L).length = L.length + 1 := by
  have := posL_le q i L
  unfold insL
  simp only [List.length_append, List.length_take, List.length_cons, List.length_drop]
  omega
theorem sortL_len (q : Nat → Nat → Int) : ∀ n, (sortL q n).length = n
  | 0 => rfl
  | n + 1 => by rw [sortL, insL_len, sortL_len q n]
theorem insL_get (q : Nat → Nat → Int) (i : Nat) (L : List Nat) (a : Nat) (ha : a < L.length + 1) : (insL q i L).getD a 0 = if a < posL q i L then L.getD a 0 else if a = posL q i L then i else L.getD (a - 1) 0 := by
  have hp := posL_le q i L
  have hl : (L.take (posL q i L)).length = posL q i L := by rw [List.length_take]; omega
  unfold insL
  by_cases h1 : a < posL q i L
  · rw [if_pos h1, List.getD_eq_getElem?_getD, List.getElem?_append_left (by omega), List.getElem?_take, if_pos h1, List.getD_eq_getElem?_getD]
  · rw [if_neg h1, List.getD_eq_getElem?_getD, List.getElem?_append_right (by omega), hl]
    by_cases h2 : a = posL q i L
    · subst h2
      simp
    · obtain ⟨b, hb⟩ : ∃ b, a - posL q i L = b + 1 := ⟨a - posL q i L - 1, by omega⟩
      rw [if_neg h2, hb, List.getElem?_cons_succ, List.getElem?_drop, List.getD_eq_getElem?_getD, show posL q i L + b = a - 1 by omega]
theorem posL_drop (q : Nat → Nat → Int) (i : Nat) : ∀ (L : List Nat) (j : Nat), j ≤ L.length → (∀ b, b < j → lessP (q i) (q (L.getD b 0)) = false) → posL q i L = j + posL q i (L.drop j)
  | L, 0, _, _ => by simp
  | [], j + 1, h, _ => by simp at h
  | x :: l, j + 1, h, hb => by
    have h0 := hb 0 (by omega)
    simp only [List.getD_cons_zero] at h0
    have ih := posL_drop q i l j (by simpa using h) fun b hb' => by have := hb (b + 1) (by omega); simpa using this
    simp only [posL, h0, cond_false, List.drop_succ_cons]
    rw [ih]
    omega
section
variable (p r k c : Int) (n : Nat) (q : Nat → Nat → Int) (hn : n ≤ 30)
/-- the block holds the rows that the list tells -/
abbrev rowsAre (q : Nat → Nat → Int) (L : List Nat) (qh : Nat → Nat → Int) : Prop := ∀ a c, a < L.length → c < 27 → q (L.getD a 0) c = qh a c
include hn in
theorem sorted_put (N m1 : Nat) (i : Nat) (L : List Nat) (hi : i < n) (hL : L.length = i) (qh : Nat → Nat → Int) (hq : rowsAre q L qh) (j : Nat) (hj : j = posL q i L) (X : R)
    (hX : X = (chk (decide ((0 ≤ (i : Int)) ∧ ((i : Int) < ((n : Nat) : Int)))) <|
      chk (i == i) <| chk (decide ((0 + i) ≤ i)) <| chk (decide ((0 ≤ (j : Int)) ∧ (((j : Int) ≤ ((i : Nat) : Int)) ∧ (((i : Nat) : Int) ≤ ((i : Nat) : Int))))) <|
      chk (i == i) <| chk (decide (((0 + (Int.toNat (j : Int))) + (i - (Int.toNat (j : Int)))) ≤ i)) <| chk (decide ((1 + (i - (Int.toNat (j : Int)))) ≤ 4294967296)) <|
      chk (i == i) <| chk (decide ((0 + i) ≤ i)) <| chk (decide (((0 : Int) ≤ 0) ∧ ((0 ≤ (j : Int)) ∧ ((j : Int) ≤ ((i : Nat) : Int))))) <|
      chk (i == i) <| chk (decide ((0 + ((Int.toNat (j : Int)) - 0)) ≤ i)) <| chk (decide ((0 + ((Int.toNat (j : Int)) - 0)) ≤ 4294967296)) <|
      chk ((1 + (i - (Int.toNat (j : Int)))) == (1 + (i - (Int.toNat (j : Int))))) <| chk (decide ((0 + (1 + (i - (Int.toNat (j : Int))))) ≤ (1 + (i - (Int.toNat (j : Int)))))) <|
      chk ((0 + ((Int.toNat (j : Int)) - 0)) == (0 + ((Int.toNat (j : Int)) - 0))) <| chk (decide (((0 + ((Int.toNat (j : Int)) - 0)) + (1 + (i - (Int.toNat (j : Int))))) ≤ 4294967296)) <|
      chk (decide ((0 + ((Int.toNat (j : Int)) - 0)) = (0 + ((Int.toNat (j : Int)) - 0)))) <|
      Ll01Sorted_3 p r k c n q N m1 (W ((i : Int) + 1)) ((0 + ((Int.toNat (j : Int)) - 0)) + (1 + (i - (Int.toNat (j : Int))))) (fun a c1 => (bif (decide (a < (0 + ((Int.toNat (j : Int)) - 0)))) then (qh (a - 0) c1) else (bif (decide ((a - (0 + ((Int.toNat (j : Int)) - 0))) < 1)) then (nthI (intsFrom (q (Int.toNat (i : Int))) 0 27) c1) else (shiftF (α := Nat → Int) (0 + (Int.toNat (j : Int))) qh ((a - (0 + ((Int.toNat (j : Int)) - 0))) - 1) c1)))))) :
    ∃ qh', X = Ll01Sorted_3 p r k c n q N m1 ((i + 1 : Nat) : Int) (i + 1) qh' ∧ rowsAre q (insL q i L) qh' := by
  have hp := posL_le q i L
  have hji : j ≤ i := by omega
  rw [toN, toN, Nat.zero_add, Nat.zero_add, Nat.zero_add, Nat.zero_add, Nat.sub_zero, W_succ (show i < 1099511627776 by omega), chkd ⟨by omega, by omega⟩, chkbeq, chkd (Nat.le_refl _), chkd ⟨by omega, by omega, by omega⟩, chkbeq, chkd (by omega), chkd (by omega), chkbeq, chkd (Nat.le_refl _), chkd ⟨by omega, by omega, by omega⟩, chkbeq, chkd (by omega), chkd (by omega), chkbeq, chkd (by omega), chkbeq, chkd (by omega), chkd rfl] at hX
  rw [show j + (1 + (i - j)) = i + 1 by omega] at hX
  refine ⟨_, hX, fun a c' ha hc => ?_⟩
  rw [insL_len, hL] at ha
  rw [insL_get q i L a (by omega), ← hj]
  by_cases h1 : a < j
  · simp only [h1, if_true, decide_true, cond_true, Nat.sub_zero]
    exact hq a c' (by omega) hc
  · by_cases h2 : a = j
    · subst h2
      simp only [Nat.lt_irrefl, if_false, if_true, decide_false, cond_false, Nat.sub_self, Nat.lt_add_one, decide_true, cond_true, Nat.zero_lt_one]
      exact (nth0 (q i) hc).symm
    · have h3 : ¬ a - j < 1 := by omega
      simp only [h1, h2, h3, if_false, decide_false, cond_false]
      have e : shiftF j qh (a - j - 1) c' = qh (a - 1) c' := by
        have : shiftF j qh (a - j - 1) = qh (j + (a - j - 1)) := by unfold shiftF; split <;> simp
        rw [this, show j + (a - j - 1) = a - 1 by omega]
      rw [e]
      exact hq (a - 1) c' (by omega) hc
include hn in
theorem sorted_inner (N m1 : Nat) (i : Nat) (L : List Nat) (hi : i < n) (hL : L.length = i) (qh : Nat → Nat → Int) (hq : rowsAre q L qh) : ∀ (e j m : Nat), j + e = i → (∀ b, b < j → lessP (q i) (q (L.getD b 0)) = false) →
    ∃ qh', Ll01Sorted_6 p r k c n q N m1 (m + e + 1) (i : Int) (j : Int) i qh = Ll01Sorted_3 p r k c n q N m1 ((i + 1 : Nat) : Int) (i + 1) qh' ∧ rowsAre q (insL q i L) qh'
  | 0, j, m, h, hb => by
    obtain rfl : j = i := by omega
    have hj : j = posL q j L := by
      have := posL_drop q j L j (by omega) hb
      rw [show L.drop j = [] from List.drop_eq_nil_of_le (by omega)] at this
      simpa [posL] using this.symm
    rw [Nat.add_zero, rl01Sorted_6, chkbeq, bifF (decide_eq_false (Int.lt_irrefl _))]
    exact sorted_put p r k c n q hn N m1 j L hi hL qh hq j hj _ rfl
  | e + 1, j, m, h, hb => by
    have hji : j < i := by omega
    rw [show m + (e + 1) + 1 = (m + e + 1) + 1 by omega, rl01Sorted_6, chkbeq, bifT (decide_eq_true (by omega)), chkd ⟨by omega, by omega⟩, chkbeq, chkd ⟨by omega, by omega⟩]
    rw [chkd (show 0 + i ≤ i by omega), chkbeq, chkd (show 0 + Int.toNat (j : Int) < i by omega)]
    have e1 : Int.toNat (j : Int) = j := rfl
    have e2 : Int.toNat (i : Int) = i := rfl
    have eL : lessP (nthI (intsFrom (q (Int.toNat (i : Int))) 0 27)) (nthI (intsFrom (qh (0 + Int.toNat (j : Int))) 0 27)) = lessP (q i) (q (L.getD j 0)) := by
      rw [Nat.zero_add, e1, e2]
      exact lessP_congr (fun c' hc => nth0 _ hc) (fun c' hc => (nth0 _ hc).trans (hq j c' (by omega) hc).symm)
    rw [eL]
    cases hl : lessP (q i) (q (L.getD j 0)) with
    | false =>
      rw [bifT (show (!false) = true from rfl), W_succ (show j < 1099511627776 by omega)]
      exact sorted_inner N m1 i L hi hL qh hq e (j + 1) m (by omega) fun b hb' => by
        by_cases h' : b = j
        · subst h'; exact hl
        · exact hb b (by omega)
    | true =>
      rw [bifF (show (!true) = false from rfl)]
      have hj : j = posL q i L := by
        have := posL_drop q i L j (by omega) hb
        rw [this]
        have hd : L.drop j = L.getD j 0 :: L.drop (j + 1) := by
          rw [List.getD_eq_getElem?_getD, List.getElem?_eq_getElem (by omega)]
          exact List.drop_eq_getElem_cons (by omega)
        rw [hd]
        simp only [posL, hl, cond_true, Nat.add_zero]
      exact sorted_put p r k c n q hn N m1 i L hi hL qh hq j hj _ rfl
include hn in
theorem sorted_outer (N : Nat) (hN : n < N) : ∀ (e i m : Nat) (qh : Nat → Nat → Int), i + e = n → rowsAre q (sortL q i) qh → Gives (.agg [I p, I r, I k, I c, .sl 0 0 n n]) n (sortQ n q) (Ll01Sorted_3 p r k c n q N (m + e + 1) (i : Int) i qh)
  | 0, i, m, qh, h, hq => by
    obtain rfl : i = n := by omega
    rw [Nat.add_zero, rl01Sorted_3, bifF (decide_eq_false (Int.lt_irrefl _))]
    exact ⟨qh, rfl, fun a c' ha hc => hq a c' (by rw [sortL_len]; exact ha) hc⟩
  | e + 1, i, m, qh, h, hq => by
    obtain ⟨M, hM⟩ : ∃ M, N = M + i + 1 := ⟨N - i - 1, by omega⟩
    obtain ⟨qh', h1, h2⟩ := sorted_inner p r k c n q hn N (m + e + 1) i (sortL q i) (by omega) (sortL_len q i) qh hq i 0 M (by omega) fun b hb => by omega
    rw [← hM] at h1
    rw [show m + (e + 1) + 1 = (m + e + 1) + 1 by omega, rl01Sorted_3, bifT (decide_eq_true (by omega))]
    have h1' : Ll01Sorted_6 p r k c n q N (m + e + 1) N (i : Int) 0 i qh = Ll01Sorted_3 p r k c n q N (m + e + 1) ((i + 1 : Nat) : Int) (i + 1) qh' := h1
    rw [h1']
    exact sorted_outer N hN e (i + 1) m qh' (by omega) h2
end
theorem lessT {c d e : Bool} {X : R} (h : X = some (.bool e, [], true)) : (bif !c then some (.bool d, [], true) else X) = some (.bool (bif c then e else d), [], true) := by
  subst h
  cases c <;> rfl
theorem l01Less_ok : EntOk e_l01Less := by
  intro vs v new h
  unfold e_l01Less at h
  simp only at h
  split at h
  · simp only [Option.bind_eq_some_iff, Option.map_eq_some_iff, Prod.mk.injEq, true_and] at h
    obtain ⟨l, hl, l', hl', rfl, rfl⟩ := h
    rw [u8s_eq hl, u8s_eq hl']
    refine ent_run none_ok rfl same_weak rfl rfl ((sl01Less (nthI l) (nthI l') 0).trans ?_) rfl cleanB_nil
    unfold lessP
    iterate 27 refine lessT ?_
    rfl
  · cases h
theorem l01Sorted_ok : EntOk e_l01Sorted := by
  intro vs v new h
  unfold e_l01Sorted at h
  simp only at h
  split at h
  · rename_i p r k c x
    simp only [Option.map_eq_some_iff, Prod.mk.injEq, decide_eq_true_eq] at h
    obtain ⟨y, hy, h1, rfl, rfl⟩ := h
    obtain ⟨q', hr, hq⟩ := sorted_outer p r k c y.1 y.2 h1 (y.1 + 1) (by omega) y.1 0 0 (nthR []) (by omega) (fun a c' ha => by simp [sortL] at ha)
    rw [show 0 + y.1 + 1 = y.1 + 1 by omega] at hr
    rw [abs_ints (q' := q') hq]
    exact ent_run (l := [e_l01Less]) (vs' := [.agg [I p, I r, I k, I c, .vi .u8 27 y.1 y.2]]) (by simp [l01Less_ok]) rfl (weak_cons (weak_sch hy) weak_nil) rfl rfl ((sl01Sorted p r k c y.1 y.2 (y.1 + 1)).trans hr) rfl (cleanB_ints _ _ _ _ _ _)
  · cases h
end Go.Proofs.Ythbmlioknnhleaa.Fn
