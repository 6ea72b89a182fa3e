/- The abstract machine run with continuations over typed blocks: what it gives is what the machine gives: data. -/
import Derived.Test.YtjdciikfbinchaaAbs31
namespace Go.Proofs.Ytjdciikfbinchaa.Abs
open Go

theorem if_k {β : Type} {c : Prop} [Decidable c] {x : Option β} {r : β} (h : (bif decide c then x else none) = some r) : c ∧ x = some r := by
  by_cases hc : c
  · simp [hc] at h; exact ⟨hc, h⟩
  · simp [hc] at h
theorem bif_k {β : Type} {c : Bool} {x : Option β} {r : β} (h : (bif c then x else none) = some r) : c = true ∧ x = some r := by
  cases c with
  | true => exact ⟨rfl, h⟩
  | false => cases h

theorem absH_get (hp : List KB) (i : Nat) : (absH hp)[i]? = (hp[i]?).map KB.abs := by simp [absH]
theorem absH_len (hp : List KB) : (absH hp).length = hp.length := by simp [absH]
theorem absH_app (a b : List KB) : absH (a ++ b) = absH a ++ absH b := by simp [absH]
theorem absH_set (hp : List KB) (i : Nat) (b : KB) : absH (hp.set i b) = (absH hp).set i b.abs := by simp [absH, List.map_set]

theorem KR.len_eq (r : KR) : r.list.length = r.len := by cases r <;> simp [KR.list, KR.len]

theorem rowsAt_get : ∀ (l : List (List AV)) (j i : Nat), j ≤ i → i < j + l.length → l[i - j]? = some (rowsAt l j i)
  | [], j, i, h1, h2 => by simp at h2; omega
  | [x], j, i, h1, h2 => by
    have : i - j = 0 := by simp at h2; omega
    rw [this]; rfl
  | x :: y :: l, j, i, h1, h2 => by
    simp only [rowsAt, selL_eq]
    by_cases h : i = j
    · subst h; simp
    · have h3 : (i == j) = false := by simpa using h
      have ih := rowsAt_get (y :: l) (j + 1) i (by omega) (by simp at h2 ⊢; omega)
      rw [h3, cond_false, ← ih]
      obtain ⟨d, hd⟩ : ∃ d, i - j = d + 1 := ⟨i - j - 1, by omega⟩
      rw [hd, show i - (j + 1) = d by omega]
      rfl

section
variable {β : Type} {T : Nat → Option TI} {r : β}

theorem rowK_s {x : KR} {i : Nat} {k : List AV → Option β} (h : rowK x i k = some r) : ∃ row, x.list[i]? = some row ∧ k row = some r := by
  unfold rowK at h
  split at h
  · rename_i l
    obtain ⟨h1, h⟩ := if_k h
    have := rowsAt_get l 0 i (Nat.zero_le _) (by omega)
    exact ⟨_, by simpa [KR.list] using this, h⟩
  · obtain ⟨h1, h⟩ := if_k h
    exact ⟨_, by simp [KR.list, h1], h⟩
  · obtain ⟨h1, h⟩ := if_k h
    exact ⟨_, by simp [KR.list, h1], h⟩
end

theorem setRows_get (i : Nat) (row : List AV) : ∀ (l : List (List AV)) (j a : Nat), (setRows i row j l)[a]? = (l[a]?).map fun x => bif i == j + a then row else x
  | [], j, a => by simp [setRows]
  | x :: l, j, 0 => by simp [setRows, selL_eq]
  | x :: l, j, a + 1 => by simp [setRows, setRows_get i row l (j + 1) a, show j + 1 + a = j + (a + 1) by omega]

theorem cells_nth {k : IntKind} {ns : List Int} {sz : Nat} (h : ns.length = sz) : cellsI k sz (fun c => nthI ns c) = ns.map (.int k ·) := by
  apply List.ext_getElem?
  intro j
  rw [cellsI_get, List.getElem?_map]
  split
  · rename_i hj
    rw [nthI_get (by omega)]
    rfl
  · rw [List.getElem?_eq_none (by omega)]
    rfl

theorem KR.set_list (x : KR) (i : Nat) (row : List AV) : (x.set i row).list = x.list.set i row := by
  have key : ∀ (n : Nat) (f g : Nat → List AV), (∀ a, a < n → g a = bif a == i then row else f a) → (List.range n).map g = ((List.range n).map f).set i row := by
    intro n f g hg
    apply List.ext_getElem?
    intro a
    rw [List.getElem?_set, List.getElem?_map, List.getElem?_map, List.length_map, List.length_range]
    by_cases ha : a < n
    · rw [List.getElem?_range ha]
      simp only [Option.map_some, hg a ha]
      by_cases e : i = a
      · subst e; simp [ha]
      · have : (a == i) = false := by simpa using Ne.symm e
        simp [this, e]
    · rw [List.getElem?_eq_none (l := List.range n) (by simp; omega)]
      by_cases e : i = a
      · subst e; simp [ha]
      · simp [e]
  unfold KR.set
  cases x with
  | lst l =>
    simp only [KR.list]
    apply List.ext_getElem?
    intro a
    rw [setRows_get, List.getElem?_set, Nat.zero_add]
    by_cases e : i = a
    · subst e
      by_cases hl : i < l.length
      · simp [hl]
      · simp [hl]
    · have : (i == a) = false := by simpa using e
      simp [this, e]
  | ints k sz n q =>
    simp only
    split
    · rename_i ns hns
      by_cases hsz : ns.length = sz
      · simp only [hsz, decide_true, cond_true, KR.list]
        refine key n _ _ fun a _ => ?_
        cases a == i with
        | true => simp only [cond_true]; rw [cells_nth hsz, intsOf_eq hns]
        | false => rfl
      · simp only [hsz, decide_false, cond_false, KR.list]
    · simp only [KR.list]
  | fn n f =>
    simp only [KR.list]
    exact key n _ _ fun a _ => by rw [selL_eq]

theorem intRowsOf_eq {k : IntKind} {sz : Nat} : ∀ {l : List (List AV)} {nss : List (List Int)}, intRowsOf k sz l = some nss → l = nss.map (fun ns => ns.map (.int k ·)) ∧ ∀ ns ∈ nss, ns.length = sz
  | [], nss, h => by cases h; exact ⟨rfl, fun _ h => by cases h⟩
  | row :: l, nss, h => by
    simp only [intRowsOf] at h
    split at h
    · rename_i ns nss' h1 h2
      obtain ⟨h3, h⟩ := if_k h
      cases h
      obtain ⟨e1, e2⟩ := intRowsOf_eq h2
      refine ⟨by rw [List.map_cons, ← e1, intsOf_eq h1], fun x hx => ?_⟩
      rcases List.mem_cons.1 hx with rfl | hx
      · exact h3
      · exact e2 x hx
    · cases h

theorem nthR_get : ∀ {nss : List (List Int)} {i : Nat} {ns : List Int}, nss[i]? = some ns → nthR nss i = nthI ns
  | [], i, ns, h => by simp at h
  | [x], 0, ns, h => by simp at h; subst h; rfl
  | [x], i + 1, ns, h => by simp at h
  | x :: y :: l, 0, ns, h => by simp at h; subst h; rfl
  | x :: y :: l, i + 1, ns, h => by
    have := nthR_get (nss := y :: l) (i := i) (ns := ns) (by simpa using h)
    rw [← this]
    rfl

theorem ints_nthR {k : IntKind} {sz : Nat} {l : List (List AV)} {nss : List (List Int)} (h : intRowsOf k sz l = some nss) : (List.range nss.length).map (fun i => cellsI k sz (nthR nss i)) = l := by
  obtain ⟨h1, h2⟩ := intRowsOf_eq h
  rw [h1]
  apply List.ext_getElem?
  intro i
  rw [List.getElem?_map, List.getElem?_map]
  by_cases hi : i < nss.length
  · rw [List.getElem?_range hi]
    obtain ⟨ns, hns⟩ : ∃ ns, nss[i]? = some ns := ⟨_, List.getElem?_eq_getElem hi⟩
    rw [hns]
    simp only [Option.map_some, nthR_get hns]
    exact congrArg some (cells_nth (h2 ns (List.mem_of_getElem? hns)))
  · rw [List.getElem?_eq_none (l := List.range _) (by simp; omega), List.getElem?_eq_none (l := nss) (by omega)]
    rfl

theorem range_app {α : Type} (n m : Nat) (f : Nat → α) : (List.range (n + m)).map f = (List.range n).map f ++ (List.range m).map (fun i => f (n + i)) := by
  rw [List.range_add, List.map_append, List.map_map]
  rfl

theorem KR.app_list (a b : KR) : (a.app b).list = a.list ++ b.list := by
  unfold KR.app
  split
  · rfl
  · rename_i k sz n q m
    split
    · rename_i nss h
      simp only [KR.list]
      rw [range_app]
      congr 1
      · apply List.map_congr_left
        intro i hi
        have : i < n := List.mem_range.1 hi
        simp [this]
      · refine Eq.trans ?_ (ints_nthR h)
        apply List.map_congr_left
        intro i _
        have : ¬ (n + i < n) := by omega
        simp [this]
    · rfl
  · rename_i k sz n q k' sz' n' q'
    by_cases h : k = k' ∧ sz = sz'
    · obtain ⟨rfl, rfl⟩ := h
      simp only [and_self, decide_true, cond_true, KR.list]
      rw [range_app]
      congr 1
      · apply List.map_congr_left
        intro i hi
        have : i < n := List.mem_range.1 hi
        simp [this]
      · apply List.map_congr_left
        intro i _
        have : ¬ (n + i < n) := by omega
        simp [this]
    · simp only [h, decide_false, cond_false]
      rfl
  · rename_i n f row
    simp only [KR.list]
    rw [range_app]
    congr 1
    · apply List.map_congr_left
      intro i hi
      have : i < n := List.mem_range.1 hi
      simp [this, selL_eq]
    · simp [selL_eq]
  · rfl

theorem KR.ty_list (zero : List AV) (m : List (List AV)) : (KR.ty zero m).list = m := by
  unfold KR.ty
  split
  · split
    · rename_i nss h
      exact ints_nthR h
    · rfl
  · split
    · simp [KR.list]
    · simp [KR.list]
    · rfl
theorem KR.opt_list (ty : Bool) (zero : List AV) (m : List (List AV)) : (KR.opt ty zero m).list = m := by
  unfold KR.opt
  split
  · exact KR.ty_list _ _
  · rfl
theorem KR.made_list (ty : Bool) (n : Nat) (zero : List AV) : (KR.made ty n zero).list = List.replicate n zero := by
  unfold KR.made
  split
  · split
    · rename_i k z h
      simp only [KR.list]
      rw [intsAll_eq h, cells_nth rfl]
      apply List.ext_getElem?
      intro i
      simp [List.getElem?_replicate]
      split <;> simp_all
    · simp only [KR.list]
      apply List.ext_getElem?
      intro i
      simp [List.getElem?_replicate]
      split <;> simp_all
  · rfl

theorem KR.madeAs_list (r : KR) (n : Nat) (zero : List AV) : (KR.madeAs r n zero).list = List.replicate n zero := by
  unfold KR.madeAs
  split
  · exact KR.made_list _ _ _
  · rfl
theorem KR.over_list (r : KR) (n : Nat) (new : KR) (h : n + new.len ≤ r.len) : (r.over n new).list = r.list.take n ++ (new.list ++ r.list.drop (n + new.list.length)) := by
  have hl : new.list.length = new.len := KR.len_eq new
  rw [hl]
  unfold KR.over
  split
  · rename_i k sz m q k' sz' m' q'
    by_cases e : k = k' ∧ sz = sz'
    · obtain ⟨rfl, rfl⟩ := e
      simp only [KR.len] at h
      simp only [and_self, decide_true, cond_true, KR.list, KR.len]
      apply List.ext_getElem?
      intro i
      by_cases h1 : i < n
      · rw [List.getElem?_append_left (by simp; omega), List.getElem?_take_of_lt h1, List.getElem?_map, List.getElem?_map, List.getElem?_range (by omega)]
        simp [show ¬ n ≤ i by omega]
      · rw [List.getElem?_append_right (by simp; omega)]
        simp only [List.length_take, List.length_map, List.length_range, show min n m = n by omega]
        by_cases h2 : i < n + m'
        · rw [List.getElem?_append_left (by simp; omega), List.getElem?_map, List.getElem?_map, List.getElem?_range (by omega), List.getElem?_range (by omega)]
          simp [show n ≤ i by omega, h2]
        · rw [List.getElem?_append_right (by simp; omega), List.getElem?_drop]
          simp only [List.length_map, List.length_range]
          rw [show n + m' + (i - n - m') = i by omega, List.getElem?_map, List.getElem?_map]
          by_cases h3 : i < m
          · rw [List.getElem?_range h3]
            simp [h2]
          · rw [List.getElem?_eq_none (by simp; omega)]
            rfl
    · simp only [e, decide_false, cond_false]
      rfl
  · rfl

theorem cut_range {α : Type} (n a m : Nat) (f : Nat → α) (h : a + m ≤ n) : (((List.range n).map f).drop a).take m = (List.range m).map (shiftF a f) := by
  apply List.ext_getElem?
  intro i
  rw [List.getElem?_take, List.getElem?_map]
  split
  · rename_i hi
    rw [List.getElem?_drop, List.getElem?_map, List.getElem?_range (by omega), List.getElem?_range hi]
    simp [shiftF_eq]
  · rename_i hi
    rw [List.getElem?_eq_none (l := List.range m) (by simp; omega)]
    rfl

theorem shiftF_comp {α γ : Type} (l : Nat) (q : Nat → α) (g : α → γ) : (fun i => g (shiftF l q i)) = shiftF l (fun i => g (q i)) := by
  funext i; rw [shiftF_eq, shiftF_eq]

theorem KR.cut_list (x : KR) (a n : Nat) (h : a + n ≤ x.len) : (x.cut a n).list = (x.list.drop a).take n := by
  cases x with
  | lst l => rfl
  | ints k sz m q =>
    simp only [KR.cut, KR.list]
    rw [cut_range m a n _ h, ← shiftF_comp (g := fun x => cellsI k sz x)]
  | fn m f =>
    simp only [KR.cut, KR.list]
    rw [cut_range m a n _ h]

theorem byteAt_get {s : ByteArray} {i : Nat} (h : i < s.size) : s.data[i]? = some (s.data[i]?.getD 0) := by
  have h' : i < s.data.size := h
  rw [Array.getElem?_eq_getElem h']
  rfl

theorem strRows_list (s : ByteArray) : (strRows s).list = s.data.toList.map fun b => [.int .u8 b.toNat] := by
  unfold strRows
  simp only [KR.list]
  apply List.ext_getElem?
  intro i
  rw [List.getElem?_map, List.getElem?_map]
  by_cases hi : i < s.size
  · rw [List.getElem?_range hi, Array.getElem?_toList, byteAt_get hi]
    simp [cellsFrom, byteAt]
  · rw [List.getElem?_eq_none (l := List.range _) (by simp; omega), List.getElem?_eq_none (l := s.data.toList) (by simp; exact Nat.le_of_not_lt hi)]
    rfl

theorem bytesOf_map (n : Nat) (q : Nat → Int) : bytesOf ((List.range n).map fun i => [.int .u8 (q i)]) = some ((List.range n).map fun i => UInt8.ofNat (q i).toNat) := by
  have : ∀ (l : List Nat), bytesOf (l.map fun i => [.int .u8 (q i)]) = some (l.map fun i => UInt8.ofNat (q i).toNat) := by
    intro l
    induction l with
    | nil => rfl
    | cons a l ih => simp [bytesOf, ih]
  exact this _

theorem bytesK_s {x : KR} {s : ByteArray} (h : bytesK x = some s) : ∃ l, bytesOf x.list = some l ∧ s = ⟨l.toArray⟩ := by
  unfold bytesK at h
  split at h
  · rename_i n q
    cases h
    refine ⟨_, ?_, rfl⟩
    simp only [KR.list]
    exact bytesOf_map n fun i => q i 0
  · simp only [Option.map_eq_some_iff] at h
    obtain ⟨b, hb, rfl⟩ := h
    exact ⟨b, hb, rfl⟩
  · cases h

/-! ### freezing -/
theorem qOf_ints (k : IntKind) (sz n : Nat) (q : Nat → Nat → Int) : qOf ((List.range n).map fun i => cellsI k sz (q i)) = canonI n sz q := by
  funext i j
  unfold qOf canonI
  by_cases hi : i < n
  · rw [List.getElem?_map, List.getElem?_range hi]
    simp only [Option.map_some, numAt, cellsI_get, hi, decide_true, Bool.true_and]
    by_cases hj : j < sz
    · simp [hj]
    · simp [hj]
  · rw [List.getElem?_eq_none (by simp; omega)]
    simp [hi]
theorem allKind_cells (k : IntKind) (q : Nat → Int) : ∀ (n i : Nat), allKind k (cellsFrom k q i n) = true
  | 0, i => rfl
  | n + 1, i => by simp [cellsFrom, allKind, allKind_cells k q n (i + 1)]
theorem intRows_ints (k : IntKind) (sz n : Nat) (q : Nat → Nat → Int) : intRows k sz ((List.range n).map fun i => cellsI k sz (q i)) = true := by
  unfold intRows
  rw [List.all_eq_true]
  intro row hrow
  obtain ⟨i, _, rfl⟩ := List.mem_map.1 hrow
  simp [cellsFrom_length, allKind_cells]

section
variable {β : Type} {T : Nat → Option TI} {r : β}

theorem freshK_s {hp : List KB} {i t : Nat} {k : KB → Option β} (h : freshK hp i t k = some r) : ∃ b, hp[i]? = some b ∧ fresh (absH hp) i t = some b.abs ∧ k b = some r := by
  unfold freshK at h
  simp only [Option.bind_eq_some_iff] at h
  obtain ⟨b, hb, h⟩ := h
  obtain ⟨h1, h2⟩ := bif_k h
  refine ⟨b, hb, ?_, h2⟩
  unfold fresh
  rw [absH_get, hb]
  simp only [Option.map_some, KB.abs, KR.len_eq, h1, cond_true]

theorem frzRows_s {kk : IntKind} {sz : Nat} {x : KR} {k : AV → Option β} (h : frzRows kk sz x k = some r) : intRows kk sz x.list = true ∧ k (.vi kk sz x.len (qOf x.list)) = some r := by
  unfold frzRows at h
  split at h
  · obtain ⟨h1, h⟩ := if_k h
    obtain ⟨rfl, rfl⟩ := h1
    simp only [KR.list, KR.len, qOf_ints, intRows_ints]
    exact ⟨trivial, h⟩
  · split at h
    · rename_i nss hn
      have e := ints_nthR hn
      simp only [KR.list, KR.len]
      have hl := (intRowsOf_eq hn).1
      have hlen : nss.length = (nss.map (fun ns => ns.map (AV.int kk ·))).length := by simp
      rw [← e, intRows_ints, qOf_ints]
      refine ⟨rfl, ?_⟩
      simpa using h
    · cases h
  · cases h

theorem freeze1_nil {hp : List Blk} {x x' : AV} (h : freeze1 T [] x = some x') (hx : ∀ q r n t, x ≠ .sl q r n t) : freeze1 T hp x = some x' := by
  cases x <;> first | exact h | exact absurd rfl (hx _ _ _ _)

theorem frz1K_s {hp : List KB} {x : AV} {k : AV → Option β} (h : frz1K T hp x k = some r) : ∃ x', freeze1 T (absH hp) x = some x' ∧ k x' = some r := by
  unfold frz1K at h
  split at h
  · rename_i q a n t
    obtain ⟨b, h1, h2, h⟩ := freshK_s h
    simp only [Option.bind_eq_some_iff] at h
    obtain ⟨⟨kk, sz⟩, h3, h⟩ := h
    obtain ⟨h4, h⟩ := if_k h
    obtain ⟨h5, h⟩ := if_k h
    obtain ⟨h6, h⟩ := frzRows_s h
    rw [KR.cut_list _ _ _ h5] at h6 h
    refine ⟨_, ?_, h⟩
    simp only [freeze1, h2, Option.bind_some]
    rw [show b.abs.e = b.e from rfl, h3]
    simp only [Option.bind_some]
    rw [if_pos ⟨h4, by show a + n ≤ b.r.list.length; rw [KR.len_eq]; exact h5, h6⟩]
    have : (b.r.cut a n).len = n := by
      rw [← KR.len_eq, KR.cut_list _ _ _ h5]
      have := KR.len_eq b.r
      simp
      omega
    rw [this]
    rfl
  · rename_i hne
    simp only [Option.bind_eq_some_iff] at h
    obtain ⟨x', h1, h⟩ := h
    exact ⟨x', freeze1_nil h1 fun q r n t e => hne q r n t e, h⟩

theorem frzLK_s {hp : List KB} : ∀ {l : List AV} {k : List AV → Option β}, frzLK T hp l k = some r → ∃ l', freezeL T (absH hp) l = some l' ∧ k l' = some r
  | [], k, h => ⟨[], rfl, h⟩
  | v :: l, k, h => by
    simp only [frzLK] at h
    obtain ⟨v', h1, h⟩ := frz1K_s h
    obtain ⟨l', h2, h⟩ := frzLK_s h
    exact ⟨_, by simp only [freezeL, h1, Option.bind_some, h2, Option.map_some], h⟩
theorem frzVK_s {hp : List KB} {x : AV} {k : AV → Option β} (h : frzVK T hp x k = some r) : ∃ x', freezeV T (absH hp) x = some x' ∧ k x' = some r := by
  unfold frzVK at h
  split at h
  · obtain ⟨cs, h1, h⟩ := frzLK_s h
    exact ⟨_, by simp only [freezeV, h1, Option.map_some], h⟩
  · rename_i hne
    obtain ⟨x', h1, h⟩ := frz1K_s h
    refine ⟨x', ?_, h⟩
    cases x <;> first | exact h1 | exact absurd rfl (hne _)
theorem frzVsK_s {hp : List KB} : ∀ {l : List AV} {k : List AV → Option β}, frzVsK T hp l k = some r → ∃ l', freezeVs T (absH hp) l = some l' ∧ k l' = some r
  | [], k, h => ⟨[], rfl, h⟩
  | v :: l, k, h => by
    simp only [frzVsK] at h
    obtain ⟨v', h1, h⟩ := frzVK_s h
    obtain ⟨l', h2, h⟩ := frzVsK_s h
    exact ⟨_, by simp only [freezeVs, h1, Option.bind_some, h2, Option.map_some], h⟩
end

theorem shiftVs_cells (d : Nat) (k : IntKind) (q : Nat → Int) : ∀ (n i : Nat), shiftVs d (cellsFrom k q i n) = cellsFrom k q i n
  | 0, i => rfl
  | n + 1, i => by simp [cellsFrom, shiftVs, shiftV, shiftVs_cells d k q n (i + 1)]
theorem shiftR_list (d : Nat) (x : KR) : (shiftR d x).list = x.list.map (shiftVs d) := by
  cases x with
  | lst l => rfl
  | ints k sz n q =>
    simp only [shiftR, KR.list, List.map_map]
    apply List.map_congr_left
    intro i _
    exact (shiftVs_cells d k (q i) sz 0).symm
  | fn n f =>
    simp only [shiftR, KR.list, List.map_map]
    rfl
theorem shiftKB_abs (d : Nat) (y : List KB) : absH (y.map (shiftKB d)) = (absH y).map (shiftB d) := by
  unfold absH
  rw [List.map_map, List.map_map]
  apply List.map_congr_left
  intro b _
  simp only [Function.comp, KB.abs, shiftKB, shiftB, shiftR_list]

end Go.Proofs.Ytjdciikfbinchaa.Abs
