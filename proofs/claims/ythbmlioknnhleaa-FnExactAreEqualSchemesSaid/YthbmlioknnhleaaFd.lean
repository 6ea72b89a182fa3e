/- What is told of the marks is so. -/
import Derived.Test.YthbmlioknnhleaaFb
import Derived.Test.YthbmlioknnhleaaEc1
import Derived.Test.YthbmlioknnhleaaEc2
namespace Go.Proofs.Ythbmlioknnhleaa.Fn
open Go Go.Proofs.Ythbmlioknnhleaa.Abs
set_option maxRecDepth 100000

/-- counting on, without wrapping -/
theorem W_up {x : Int} (c : Int) (h1 : -9223372036854775808 ≤ x + c) (h2 : x + c < 9223372036854775807) : W (x + c + 1) = x + (c + 1) := by
  rw [W_of (by omega) (by omega)]
  omega
theorem nth27 (c : Nat) (h : c < 27) : c = 0 ∨ c = 1 ∨ c = 2 ∨ c = 3 ∨ c = 4 ∨ c = 5 ∨ c = 6 ∨ c = 7 ∨ c = 8 ∨ c = 9 ∨ c = 10 ∨ c = 11 ∨ c = 12 ∨ c = 13 ∨ c = 14 ∨ c = 15 ∨ c = 16 ∨ c = 17 ∨ c = 18 ∨ c = 19 ∨ c = 20 ∨ c = 21 ∨ c = 22 ∨ c = 23 ∨ c = 24 ∨ c = 25 ∨ c = 26 := by omega
/-- the cells of one product after its mark -/
theorem mark27 (s : Int) (a : Nat) (q1 : Nat → Nat → Int) (c : Nat) (hc : c < 27) : (bif c == 26 && a == a then IntKind.u8.wrap (s + 27 * (a : Int) + 26) else (bif c == 25 && a == a then IntKind.u8.wrap (s + 27 * (a : Int) + 25) else (bif c == 24 && a == a then IntKind.u8.wrap (s + 27 * (a : Int) + 24) else (bif c == 23 && a == a then IntKind.u8.wrap (s + 27 * (a : Int) + 23) else (bif c == 22 && a == a then IntKind.u8.wrap (s + 27 * (a : Int) + 22) else (bif c == 21 && a == a then IntKind.u8.wrap (s + 27 * (a : Int) + 21) else (bif c == 20 && a == a then IntKind.u8.wrap (s + 27 * (a : Int) + 20) else (bif c == 19 && a == a then IntKind.u8.wrap (s + 27 * (a : Int) + 19) else (bif c == 18 && a == a then IntKind.u8.wrap (s + 27 * (a : Int) + 18) else (bif c == 17 && a == a then IntKind.u8.wrap (s + 27 * (a : Int) + 17) else (bif c == 16 && a == a then IntKind.u8.wrap (s + 27 * (a : Int) + 16) else (bif c == 15 && a == a then IntKind.u8.wrap (s + 27 * (a : Int) + 15) else (bif c == 14 && a == a then IntKind.u8.wrap (s + 27 * (a : Int) + 14) else (bif c == 13 && a == a then IntKind.u8.wrap (s + 27 * (a : Int) + 13) else (bif c == 12 && a == a then IntKind.u8.wrap (s + 27 * (a : Int) + 12) else (bif c == 11 && a == a then IntKind.u8.wrap (s + 27 * (a : Int) + 11) else (bif c == 10 && a == a then IntKind.u8.wrap (s + 27 * (a : Int) + 10) else (bif c == 9 && a == a then IntKind.u8.wrap (s + 27 * (a : Int) + 9) else (bif c == 8 && a == a then IntKind.u8.wrap (s + 27 * (a : Int) + 8) else (bif c == 7 && a == a then IntKind.u8.wrap (s + 27 * (a : Int) + 7) else (bif c == 6 && a == a then IntKind.u8.wrap (s + 27 * (a : Int) + 6) else (bif c == 5 && a == a then IntKind.u8.wrap (s + 27 * (a : Int) + 5) else (bif c == 4 && a == a then IntKind.u8.wrap (s + 27 * (a : Int) + 4) else (bif c == 3 && a == a then IntKind.u8.wrap (s + 27 * (a : Int) + 3) else (bif c == 2 && a == a then IntKind.u8.wrap (s + 27 * (a : Int) + 2) else (bif c == 1 && a == a then IntKind.u8.wrap (s + 27 * (a : Int) + 1) else (bif c == 0 && a == a then IntKind.u8.wrap (s + 27 * (a : Int)) else q1 a c))))))))))))))))))))))))))) = markQ s a c := by
  have e : s + 27 * (a : Int) + ((0 : Nat) : Int) = s + 27 * (a : Int) := by simp
  rcases nth27 c hc with rfl | rfl | rfl | rfl | rfl | rfl | rfl | rfl | rfl | rfl | rfl | rfl | rfl | rfl | rfl | rfl | rfl | rfl | rfl | rfl | rfl | rfl | rfl | rfl | rfl | rfl | rfl <;> simp [markQ]
theorem markProductS_loop (n : Nat) (q : Nat → Nat → Int) (s : Int) (hs : 0 ≤ s ∧ s ≤ 1099511627776) (hn : n ≤ 1048576) (N : Nat) : ∀ (d i m : Nat) (q1 : Nat → Nat → Int) (cl : Bool), i + d = n → (cl = true → i = 0) → (∀ a c, a < i → c < 27 → q1 a c = markQ s a c) →
    ∃ q', LmarkProductS_2 n q s N (m + d + 1) (s + 27 * i) (i : Int) q1 cl = some (I (s + 27 * n), [⟨tProduct, 27, .ints .u8 27 n q'⟩], true) ∧ ∀ a c, a < n → c < 27 → q' a c = markQ s a c
  | 0, i, m, q1, cl, h, hc, hq => by
    have h1 : ¬ ((i : Int) < (n : Int)) := by omega
    obtain rfl : i = n := by omega
    rw [rmarkProductS_2]
    simp only [h1, decide_false, cond_false, beq_self_eq_true, chk, cond_true]
    cases cl with
    | true =>
      obtain rfl : i = 0 := hc rfl
      exact ⟨q, rfl, fun a c ha => by omega⟩
    | false => exact ⟨q1, rfl, fun a c ha hc => hq a c ha hc⟩
  | d + 1, i, m, q1, cl, h, hc, hq => by
    have h1 : (i : Int) < (n : Int) := by omega
    have hi : i < n := by omega
    have h0 : (0 : Int) ≤ (i : Int) := by omega
    have up : ∀ c : Int, 0 ≤ c → c ≤ 30 → W (s + 27 * (i : Int) + c + 1) = s + 27 * (i : Int) + (c + 1) := fun c c0 c1 => W_up c (by omega) (by omega)
    have e1 : W (s + 27 * (i : Int) + 1) = s + 27 * (i : Int) + 1 := by have := up 0 (by omega) (by omega); simpa using this
    rw [show m + (d + 1) + 1 = (m + d + 1) + 1 by omega, rmarkProductS_2]
    simp only [h1, h0, hi, toN, Nat.zero_add, Nat.le_refl, beq_self_eq_true, and_self, chk, decide_true, cond_true, W_succ (show i < 1099511627776 by omega), e1, up 1 (by omega) (by omega), up 2 (by omega) (by omega), up 3 (by omega) (by omega), up 4 (by omega) (by omega), up 5 (by omega) (by omega), up 6 (by omega) (by omega), up 7 (by omega) (by omega), up 8 (by omega) (by omega), up 9 (by omega) (by omega), up 10 (by omega) (by omega), up 11 (by omega) (by omega), up 12 (by omega) (by omega), up 13 (by omega) (by omega), up 14 (by omega) (by omega), up 15 (by omega) (by omega), up 16 (by omega) (by omega), up 17 (by omega) (by omega), up 18 (by omega) (by omega), up 19 (by omega) (by omega), up 20 (by omega) (by omega), up 21 (by omega) (by omega), up 22 (by omega) (by omega), up 23 (by omega) (by omega), up 24 (by omega) (by omega), up 25 (by omega) (by omega), up 26 (by omega) (by omega), Int.reduceAdd]
    rw [show s + 27 * (i : Int) + 27 = s + 27 * ((i + 1 : Nat) : Int) by omega]
    refine markProductS_loop n q s hs hn N d (i + 1) m _ _ (by omega) (by simp) ?_
    intro a c ha hc'
    by_cases hai : a = i
    · subst hai
      exact mark27 s a q1 c hc'
    · have hf : (a == i) = false := by simp [hai]
      simp only [hf, Bool.and_false, cond_false]
      exact hq a c (by omega) hc'

theorem TellsM.cells {f : Nat} {vs : List AV} {b : NB} {v : AV} {e sz n : Nat} {k : IntKind} {q q' : Nat → Nat → Int} (h : TellsM Try.prog f vs b v ⟨e, sz, k, n, q⟩) (hq : ∀ i j, i < n → j < sz → q i j = q' i j) : TellsM Try.prog f vs b v ⟨e, sz, k, n, q'⟩ := by
  have e1 : (NB.mk e sz k n q).blk = (NB.mk e sz k n q').blk := by
    have := abs_ints (e := e) (sz := sz) (k := k) hq
    simp only [absH, List.map_cons, List.map_nil, KB.abs, KR.list, List.cons.injEq, and_true] at this
    exact this
  obtain ⟨R, c, h1, h2⟩ := h
  exact ⟨R, c, h1, by rw [← e1]; exact h2⟩

theorem markProductS_ok : MEntOk m_markProductS := by
  intro vs b v b' h
  unfold m_markProductS at h
  simp only at h
  split at h
  · rename_i n t s
    simp only [Option.some.injEq, Prod.mk.injEq, Bool.and_eq_true, decide_eq_true_eq] at h
    obtain ⟨⟨h1, h2, h3, h4, h5, h6, h7, h8⟩, rfl, rfl⟩ := h
    obtain ⟨be, bsz, bk, bn, bq⟩ := b
    simp only at h1 h2 h3 h4 h5 h6
    subst h1 h3 h4 h5
    subst h2
    obtain ⟨q', hr, hq'⟩ := markProductS_loop t bq s ⟨h7, h8⟩ h6 (t + 1) t 0 0 bq true (by omega) (fun _ => rfl) (fun a c ha => by omega)
    have hr' : fnKH Try.prog (kc (tabOf [])) 40 (rnd [5, 10, 15] 12 (t + 1)) m_markProductS.1 [.sl 0 0 t t, I s] [KB.ofNB ⟨tProduct, 27, .u8, t, bq⟩] done = some (I (s + 27 * t), [KB.ofNB ⟨tProduct, 27, .u8, t, q'⟩], true) := by
      rw [show m_markProductS.1 = 63 from rfl, smarkProductS]
      have e0 : s + 27 * ((0 : Nat) : Int) = s := by simp
      rw [show (0 + t + 1) = t + 1 by omega, e0] at hr
      exact hr
    refine ⟨TellsM.cells (fnKH_mut mixed plain (tabOf_ok (l := []) (by simp)) (KMTOk.none _) rfl rfl hr') hq', rfl, rfl, rfl, rfl, Nat.le_refl _, rfl⟩
  · cases h

theorem ex1 {α : Type} (d : Bool) (x y : α) : (bif !d then x else y) = (bif d then y else x) := by cases d <;> rfl
theorem ex2 {α : Type} (d e : Bool) (x y : α) : (bif d then (bif e then x else y) else y) = (bif d && e then x else y) := by cases d <;> rfl
theorem ex3 (d : Bool) (x y : Int) : (bif d then some (I x, ([] : List KB), true) else some (I y, [], true)) = some (I (bif d then x else y), [], true) := by cases d <;> rfl
theorem heldProductS_loop (n : Nat) (q : Nat → Nat → Int) (s : Int) (hs : 0 ≤ s ∧ s ≤ 1099511627776) (hn : n ≤ 1048576) (N : Nat) : ∀ (d i m : Nat), i + d = n →
    LheldProductS_2 n q s N (m + d + 1) (s + 27 * i) (i : Int) = some (I (bif allN (fun i => allN (fun j => decide (q i j = markQ s i j)) 0 27) i d then s + 27 * n else -1), [], true)
  | 0, i, m, h => by
    have h1 : ¬ ((i : Int) < (n : Int)) := by omega
    obtain rfl : i = n := by omega
    rw [rheldProductS_2]
    simp only [h1, decide_false, cond_false, allN, cond_true]
  | d + 1, i, m, h => by
    have h1 : (i : Int) < (n : Int) := by omega
    have hi : i < n := by omega
    have h0 : (0 : Int) ≤ (i : Int) := by omega
    have up : ∀ c : Int, 0 ≤ c → c ≤ 30 → W (s + 27 * (i : Int) + c + 1) = s + 27 * (i : Int) + (c + 1) := fun c c0 c1 => W_up c (by omega) (by omega)
    have e1 : W (s + 27 * (i : Int) + 1) = s + 27 * (i : Int) + 1 := by have := up 0 (by omega) (by omega); simpa using this
    have ih := heldProductS_loop n q s hs hn N d (i + 1) m (by omega)
    rw [show s + 27 * ((i + 1 : Nat) : Int) = s + 27 * (i : Int) + 27 by omega] at ih
    rw [show m + (d + 1) + 1 = (m + d + 1) + 1 by omega, rheldProductS_2]
    simp only [h1, h0, toN, and_self, chk, decide_true, cond_true, W_succ (show i < 1099511627776 by omega), e1, up 1 (by omega) (by omega), up 2 (by omega) (by omega), up 3 (by omega) (by omega), up 4 (by omega) (by omega), up 5 (by omega) (by omega), up 6 (by omega) (by omega), up 7 (by omega) (by omega), up 8 (by omega) (by omega), up 9 (by omega) (by omega), up 10 (by omega) (by omega), up 11 (by omega) (by omega), up 12 (by omega) (by omega), up 13 (by omega) (by omega), up 14 (by omega) (by omega), up 15 (by omega) (by omega), up 16 (by omega) (by omega), up 17 (by omega) (by omega), up 18 (by omega) (by omega), up 19 (by omega) (by omega), up 20 (by omega) (by omega), up 21 (by omega) (by omega), up 22 (by omega) (by omega), up 23 (by omega) (by omega), up 24 (by omega) (by omega), up 25 (by omega) (by omega), up 26 (by omega) (by omega), Int.reduceAdd, ih, ex1]
    rw [show allN (fun i => allN (fun j => decide (q i j = markQ s i j)) 0 27) i (d + 1) = (allN (fun j => decide (q i j = markQ s i j)) 0 27 && allN (fun i => allN (fun j => decide (q i j = markQ s i j)) 0 27) (i + 1) d) from rfl]
    generalize allN (fun i => allN (fun j => decide (q i j = markQ s i j)) 0 27) (i + 1) d = z
    have ez : some (I (bif z then s + 27 * (n : Int) else -1), ([] : List KB), true) = bif z then some (I (s + 27 * (n : Int)), ([] : List KB), true) else some (I (-1), [], true) := by cases z <;> rfl
    rw [ez]
    simp only [ex2, allN, markQ, Nat.zero_add, Nat.reduceAdd, Int.cast_ofNat_Int, Int.add_zero, Bool.and_true, Bool.and_assoc]
    rw [ex3]

theorem heldProductS_ok : EntOk e_heldProductS := by
  intro vs v new h
  unfold e_heldProductS at h
  simp only at h
  split at h
  · rename_i x s
    simp only [Option.map_eq_some_iff, Prod.mk.injEq, Bool.and_eq_true, decide_eq_true_eq] at h
    obtain ⟨a, ha, ⟨h1, h2, h3⟩, rfl, rfl⟩ := h
    have hr := heldProductS_loop a.1 a.2 s ⟨h2, h3⟩ h1 (a.1 + 1) a.1 0 0 (by omega)
    have e0 : s + 27 * ((0 : Nat) : Int) = s := by simp
    rw [show (0 + a.1 + 1) = a.1 + 1 by omega, e0] at hr
    have hr' : fnK Try.prog (kc (tabOf [])) 40 (rnd [5, 11, 17] 12 (a.1 + 1)) e_heldProductS.1 [.vi .u8 27 a.1 a.2, I s] done = _ := (sheldProductS a.1 a.2 s (a.1 + 1)).trans hr
    exact ent_run (l := []) (vs' := [.vi .u8 27 a.1 a.2, I s]) (by simp) rfl (weak_cons (prods_weak ha) (weak_cons (.same _) weak_nil)) rfl rfl hr' rfl cleanB_nil
  · cases h

end Go.Proofs.Ythbmlioknnhleaa.Fn
