/- The order of products, and that there is one sorted list. -/
import Derived.Test.YthbmlioknnhleaaFsort
import Derived.Test.YthbmlioknnhleaaFcmp
namespace Go.Proofs.Ythbmlioknnhleaa.Fn
open Go Go.Proofs.Ythbmlioknnhleaa.Abs
set_option maxRecDepth 100000
set_option linter.unusedVariables false
set_option linter.unusedSimpArgs false
theorem lexF_irr (x : Nat → Int) : ∀ (d i : Nat), lexF x x i d = false
  | 0, i => rfl
  | d + 1, i => by simp [lexF, lexF_irr x d (i + 1)]
theorem lexF_trans (x y z : Nat → Int) : ∀ (d i : Nat), lexF x y i d = true → lexF y z i d = true → lexF x z i d = true
  | 0, i, h, _ => by cases h
  | d + 1, i, h1, h2 => by
    simp only [lexF] at h1 h2 ⊢
    by_cases a : x i = y i
    · rw [decide_eq_true a] at h1
      by_cases b : y i = z i
      · rw [decide_eq_true b] at h2
        rw [decide_eq_true (a.trans b)]
        exact lexF_trans x y z d (i + 1) h1 h2
      · rw [decide_eq_false b] at h2
        rw [a, decide_eq_false b]
        exact h2
    · rw [decide_eq_false a] at h1
      have h1' : x i < y i := by simpa using h1
      by_cases b : y i = z i
      · rw [← b, decide_eq_false a]
        exact h1
      · rw [decide_eq_false b] at h2
        have h2' : y i < z i := by simpa using h2
        rw [decide_eq_false (show ¬ x i = z i by omega)]
        simp
        omega
theorem lexF_ntrans (x y z : Nat → Int) : ∀ (d i : Nat), lexF x y i d = false → lexF y z i d = false → lexF x z i d = false
  | 0, i, h, _ => rfl
  | d + 1, i, h1, h2 => by
    simp only [lexF] at h1 h2 ⊢
    by_cases a : x i = y i
    · rw [decide_eq_true a] at h1
      by_cases b : y i = z i
      · rw [decide_eq_true b] at h2
        rw [decide_eq_true (a.trans b)]
        exact lexF_ntrans x y z d (i + 1) h1 h2
      · rw [decide_eq_false b] at h2
        rw [a, decide_eq_false b]
        exact h2
    · rw [decide_eq_false a] at h1
      have h1' : ¬ x i < y i := by simpa using h1
      by_cases b : y i = z i
      · rw [← b, decide_eq_false a]
        exact h1
      · rw [decide_eq_false b] at h2
        have h2' : ¬ y i < z i := by simpa using h2
        rw [decide_eq_false (show ¬ x i = z i by omega)]
        simp
        omega
theorem lexF_tot (x y : Nat → Int) : ∀ (d i : Nat), lexF x y i d = false → lexF y x i d = false → ∀ c, i ≤ c → c < i + d → x c = y c
  | 0, i, _, _, c, h1, h2 => by omega
  | d + 1, i, h1, h2, c, hc1, hc2 => by
    simp only [lexF] at h1 h2
    by_cases a : x i = y i
    · rw [decide_eq_true a] at h1
      rw [decide_eq_true a.symm] at h2
      by_cases hc : c = i
      · rw [hc, a]
      · exact lexF_tot x y d (i + 1) h1 h2 c (by omega) (by omega)
    · rw [decide_eq_false a] at h1
      rw [decide_eq_false (fun e => a e.symm)] at h2
      have h1' : ¬ x i < y i := by simpa using h1
      have h2' : ¬ y i < x i := by simpa using h2
      omega
theorem lessP_asym {x y : Nat → Int} (h : lessP x y = true) : lessP y x = false := by
  cases h2 : lessP y x with
  | false => rfl
  | true => have := lexF_trans x y x 27 0 h h2; rw [lexF_irr] at this; cases this
/-! the sorted list -/
theorem posL_before (q : Nat → Nat → Int) (i : Nat) : ∀ (L : List Nat) (j : Nat), j ∈ L.take (posL q i L) → lessP (q i) (q j) = false
  | [], j, h => by simp at h
  | a :: L, j, h => by
    simp only [posL] at h
    cases hl : lessP (q i) (q a) with
    | true => rw [hl] at h; simp at h
    | false =>
      rw [hl] at h
      simp only [cond_false, List.take_succ_cons, List.mem_cons] at h
      rcases h with rfl | h
      · exact hl
      · exact posL_before q i L j h
theorem posL_at (q : Nat → Nat → Int) (i : Nat) : ∀ (L : List Nat), L.drop (posL q i L) = [] ∨ ∃ a l, L.drop (posL q i L) = a :: l ∧ lessP (q i) (q a) = true
  | [] => by simp
  | a :: L => by
    simp only [posL]
    cases hl : lessP (q i) (q a) with
    | true => right; exact ⟨a, L, rfl, hl⟩
    | false =>
      simp only [cond_false, List.drop_succ_cons]
      exact posL_at q i L
/-- no later one comes before an earlier one -/
def SortedL (q : Nat → Nat → Int) (L : List Nat) : Prop := L.Pairwise fun a b => lessP (q b) (q a) = false
theorem insL_sorted (q : Nat → Nat → Int) (i : Nat) (L : List Nat) (h : SortedL q L) : SortedL q (insL q i L) := by
  have hs : SortedL q (L.take (posL q i L) ++ L.drop (posL q i L)) := by rw [List.take_append_drop]; exact h
  unfold SortedL at hs
  rw [List.pairwise_append] at hs
  obtain ⟨h1, h2, h3⟩ := hs
  have hb : ∀ b ∈ L.drop (posL q i L), lessP (q b) (q i) = false := by
    intro b hb
    rcases posL_at q i L with e | ⟨a, l, e, hl⟩
    · rw [e] at hb; cases hb
    · rw [e] at hb h2
      rcases List.mem_cons.1 hb with rfl | hb'
      · exact lessP_asym hl
      · have h4 := (List.pairwise_cons.1 h2).1 b hb'
        cases h5 : lessP (q b) (q i) with
        | false => rfl
        | true =>
          have := lexF_trans _ _ _ 27 0 h5 hl
          rw [show lexF (q b) (q a) 0 27 = lessP (q b) (q a) from rfl, h4] at this
          cases this
  unfold SortedL insL
  rw [List.pairwise_append]
  refine ⟨h1, List.pairwise_cons.2 ⟨hb, h2⟩, fun a ha b hb' => ?_⟩
  rcases List.mem_cons.1 hb' with rfl | hb'
  · exact posL_before q b L a ha
  · exact h3 a ha b hb'
theorem sortL_sorted (q : Nat → Nat → Int) : ∀ n, SortedL q (sortL q n)
  | 0 => List.Pairwise.nil
  | n + 1 => insL_sorted q n _ (sortL_sorted q n)
theorem sortL_perm (q : Nat → Nat → Int) : ∀ n, (sortL q n).Perm (List.range n)
  | 0 => List.Perm.refl _
  | n + 1 => by
    rw [List.range_succ]
    show (List.take _ _ ++ n :: List.drop _ _).Perm _
    refine List.perm_middle.trans ?_
    rw [List.take_append_drop]
    refine (List.Perm.cons n (sortL_perm q n)).trans ?_
    exact (List.perm_append_comm (l₁ := [n]) (l₂ := List.range n))
/-! products as values -/
abbrev Pr := Fin 27 → Int
def extP (x : Pr) : Nat → Int := fun c => if h : c < 27 then x ⟨c, h⟩ else 0
def encP (x : Pr) : List Value := (List.range 27).map fun c => Value.int .u8 (extP x c)
def rowP (f : Nat → Int) : Pr := fun c => f c
theorem ext_row (f : Nat → Int) {c : Nat} (h : c < 27) : extP (rowP f) c = f c := by simp [extP, rowP, h]
def cfP (x y : Pr) : Int := cmpP (extP x) (extP y)
theorem ltOf_cfP (x y : Pr) : decide (cfP x y < 0) = lessP (extP x) (extP y) := cmpF_neg _ _ 27 0
theorem lessP_row (f g : Nat → Int) : lessP (extP (rowP f)) (extP (rowP g)) = lessP f g := lessP_congr (fun c h => ext_row f h) (fun c h => ext_row g h)
theorem ext_inj {x y : Pr} (h : ∀ c, c < 27 → extP x c = extP y c) : x = y := by
  funext c
  have := h c.1 c.2
  simpa [extP, c.2] using this
/-- there is one sorted list -/
theorem sorted_one (q : Nat → Nat → Int) (n : Nat) (l : List Pr) (hp : l.Perm ((List.range n).map fun i => rowP (q i))) (hs : l.Pairwise fun x y => lessP (extP y) (extP x) = false) : l = (List.range n).map fun i => rowP (sortQ n q i) := by
  have e : (List.range n).map (fun i => rowP (sortQ n q i)) = (sortL q n).map fun i => rowP (q i) := by
    apply List.ext_getElem?
    intro i
    rw [List.getElem?_map, List.getElem?_map]
    by_cases hi : i < n
    · rw [List.getElem?_range hi, List.getElem?_eq_getElem (by rw [sortL_len]; exact hi)]
      simp only [Option.map_some, sortQ]
      rw [List.getD_eq_getElem?_getD, List.getElem?_eq_getElem (by rw [sortL_len]; exact hi)]
      rfl
    · rw [List.getElem?_eq_none (by simp; omega), List.getElem?_eq_none (by rw [sortL_len]; omega)]
      rfl
  rw [e]
  refine List.Perm.eq_of_pairwise (le := fun x y => lessP (extP y) (extP x) = false) ?_ hs ?_ (hp.trans ((sortL_perm q n).map _).symm)
  · intro a b _ _ h1 h2
    exact ext_inj fun c hc => lexF_tot _ _ 27 0 h2 h1 c (by omega) (by omega)
  · rw [List.pairwise_map]
    refine (sortL_sorted q n).imp fun {a b} h => ?_
    rw [lessP_row]
    exact h
end Go.Proofs.Ythbmlioknnhleaa.Fn
