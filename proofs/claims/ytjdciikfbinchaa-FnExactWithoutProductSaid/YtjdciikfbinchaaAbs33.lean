/- The abstract machine run with continuations over typed blocks: what it gives is what the machine gives: operations. -/
import Derived.Test.YtjdciikfbinchaaAbs32
namespace Go.Proofs.Ytjdciikfbinchaa.Abs
open Go

section
variable {β : Type} {T : Nat → Option TI} {r : β}

theorem binK_s {op : BinOp} {kk : IntKind} {x y : Int} {k : AV → Option β} (h : binK op kk x y k = some r) : ∃ v, binI op kk x y = some v ∧ k v = some r := by
  unfold binK at h
  split at h
  · by_cases hy : y = 0
    · simp [hy] at h
    · simp [hy] at h; exact ⟨_, by simp [binI, hy], h⟩
  · by_cases hy : y = 0
    · simp [hy] at h
    · simp [hy] at h; exact ⟨_, by simp [binI, hy], h⟩
  · simpa only [Option.bind_eq_some_iff] using h

theorem binAK_s {ti : Option TI} {op : BinOp} {x y : AV} {k : AV → Option β} (h : binAK ti op x y k = some r) : ∃ v, binT ti op x y = some v ∧ k v = some r := by
  unfold binAK at h
  split at h
  · simp only [Option.bind_eq_some_iff] at h
    obtain ⟨t, ht, h⟩ := h
    split at h
    · rename_i hd
      exact ⟨_, by simp only [binT, ht, Option.bind_some, hd], h⟩
    · rename_i hd
      exact ⟨_, by simp only [binT, ht, Option.bind_some, hd], h⟩
    · cases h
  · rename_i ka a kb b
    split at h
    · by_cases hb : b < 0
      · simp [hb] at h
      · simp [hb] at h; exact ⟨_, by simp [binT, binA, hb], h⟩
    · by_cases hb : b < 0
      · simp [hb] at h
      · simp [hb] at h; exact ⟨_, by simp [binT, binA, hb], h⟩
    · rename_i h1 h2
      obtain ⟨hk, h'⟩ := if_k h
      clear h
      subst hk
      obtain ⟨v, hv, hr⟩ := binK_s h'
      refine ⟨v, ?_, hr⟩
      cases op <;> first | exact (h1 rfl).elim | exact (h2 rfl).elim | (show (if ka = ka then binI _ ka a b else none) = some v; rw [if_pos rfl]; exact hv)
  · split at h
    · obtain ⟨h1, h⟩ := if_k h
      exact ⟨_, by simp only [binT, binA, binS]; rw [if_pos h1], h⟩
    · simp only [Option.bind_eq_some_iff] at h
      obtain ⟨v, h1, h⟩ := h
      exact ⟨v, h1, h⟩
  · split at h
    · rename_i ka xs kb ys ls ha hb hls0
      obtain ⟨h1, h2⟩ := bif_k h
      clear h
      simp only [Bool.and_eq_true, decide_eq_true_eq] at h1
      obtain ⟨⟨rfl, hl⟩, hls⟩ := h1
      rw [intsAll_eq ha, intsAll_eq hb]
      split at h2
      · exact ⟨_, by simp only [binT, binA, hls0, Option.bind_some, eqCells_ints hls hl, Option.map_some], h2⟩
      · exact ⟨_, by simp only [binT, binA, hls0, Option.bind_some, eqCells_ints hls hl, Option.map_some], h2⟩
      · cases h2
    · simp only [Option.bind_eq_some_iff] at h
      obtain ⟨v, h1, h⟩ := h
      exact ⟨v, h1, h⟩
  · simpa only [Option.bind_eq_some_iff] using h

theorem rowAtK_s {lo : List (Nat × List AV)} {hp : List KB} {p : AV} {k : List AV → Nat → Option β} (h : rowAtK lo hp p k = some r) : ∃ x c, rowAt lo (absH hp) p = some (x, c) ∧ k x c = some r := by
  unfold rowAtK at h
  split at h
  · simp only [Option.bind_eq_some_iff] at h
    obtain ⟨x, hx, h⟩ := h
    exact ⟨x, _, by simp only [rowAt, hx, Option.map_some], h⟩
  · exact ⟨_, _, rfl, h⟩
  · obtain ⟨b, hb, hf, h⟩ := freshK_s h
    obtain ⟨x, hx, h⟩ := rowK_s h
    exact ⟨x, _, by simp only [rowAt, hf, Option.bind_some]; rw [show b.abs.rows = b.r.list from rfl, hx]; rfl, h⟩
  · cases h

theorem cellK_s {cs : List AV} {off : Nat} {k : AV → Option β} (h : cellK cs off k = some r) : ∃ v, cs[off]? = some v ∧ k v = some r := by
  unfold cellK at h
  split at h
  · rename_i kk ns hn
    obtain ⟨h1, h⟩ := if_k h
    refine ⟨_, ?_, h⟩
    rw [intsAll_eq hn, List.getElem?_map, nthI_get h1]
    rfl
  · simpa only [Option.bind_eq_some_iff] using h

theorem partK_s {ti : TI} {cs : List AV} {off : Nat} {k : AV → Option β} (h : partK ti cs off k = some r) : ∃ v, partOf ti cs off = some v ∧ k v = some r := by
  unfold partK at h
  unfold partOf
  cases ha : agg? ti.d with
  | true =>
    rw [ha] at h
    simp only [cond_true] at h ⊢
    obtain ⟨h1, h2⟩ := if_k h
    exact ⟨_, by rw [if_pos h1], h2⟩
  | false =>
    rw [ha] at h
    simp only [cond_false] at h ⊢
    exact cellK_s h

theorem loadK_s {lo : List (Nat × List AV)} {hp : List KB} {ty : Nat} {p : AV} {k : AV → Option β} (h : loadK T lo hp ty p k = some r) : ∃ v, loadA T lo (absH hp) ty p = some v ∧ k v = some r := by
  unfold loadK at h
  obtain ⟨x, c, h1, h⟩ := rowAtK_s h
  simp only [Option.bind_eq_some_iff] at h
  obtain ⟨ti, h2, h⟩ := h
  obtain ⟨v, h3, h⟩ := partK_s h
  exact ⟨v, by simp only [loadA, h1, Option.bind_some, h2, h3], h⟩

theorem storeRowK_eq (v : AV) (row : List AV) (c : Nat) : storeRowK v row c = storeRow v row c := by
  unfold storeRowK storeRow
  cases v <;> first | rfl | exact setC_eq _ _ _

theorem set_abs (hp : List KB) (i : Nat) (b : KB) (x : KR) : (absH (hp.set i { b with r := x })) = (absH hp).set i { b.abs with rows := x.list } := by
  rw [absH_set]; rfl

theorem put_list {x : KR} {i c : Nat} {v : AV} {row : List AV} (h : x.list[i]? = some row) : (x.put i c v row).list = x.list.set i (storeRow v row c) := by
  have gen : (x.set i (storeRowK v row c)).list = x.list.set i (storeRow v row c) := by rw [KR.set_list, storeRowK_eq]
  unfold KR.put
  split
  · rename_i k sz n q k' y
    by_cases hk : k' = k
    · subst hk
      simp only [decide_true, cond_true, KR.list] at h ⊢
      have hi : i < n := by
        have := (List.getElem?_eq_some_iff.1 h).1
        simpa using this
      have hrow : row = cellsI k' sz (q i) := by
        rw [List.getElem?_map, List.getElem?_range hi] at h
        simpa using h.symm
      apply List.ext_getElem?
      intro a
      rw [List.getElem?_set, List.getElem?_map, List.getElem?_map, List.length_map, List.length_range]
      by_cases ha : a < n
      · rw [List.getElem?_range ha]
        simp only [Option.map_some]
        by_cases e : i = a
        · subst e
          simp only [if_true, hi, Option.some.injEq, BEq.rfl, Bool.and_true]
          rw [hrow]
          apply List.ext_getElem?
          intro j
          simp only [storeRow, List.getElem?_set, cellsI_get, cellsFrom_length]
          by_cases hj : j < sz
          · by_cases ec : c = j
            · subst ec; simp [hj]
            · have : (j == c) = false := by simpa using Ne.symm ec
              simp [hj, ec, this]
          · by_cases ec : c = j
            · subst ec; simp [hj]
            · simp [hj, ec]
        · have : (a == i) = false := by simpa using Ne.symm e
          simp [e, this]
      · rw [List.getElem?_eq_none (l := List.range n) (by simp; omega)]
        by_cases e : i = a
        · subst e; omega
        · simp [e]
    · simp only [hk, decide_false, cond_false]
      exact gen
  · exact gen

theorem storeK_s {lo : List (Nat × List AV)} {hp : List KB} {n0 ty : Nat} {p v : AV} {k : KE → Option β} (h : storeK T lo hp n0 ty p v k = some r) : ∃ e : KE, storeA T lo (absH hp) n0 ty p v = some e.abs ∧ k e = some r := by
  unfold storeK at h
  simp only [Option.bind_eq_some_iff] at h
  obtain ⟨ti, h1, h⟩ := h
  obtain ⟨h2, h⟩ := bif_k h
  simp only [Bool.and_eq_true, decide_eq_true_eq] at h2
  unfold storeA
  simp only [h1, h2, and_self, if_true]
  split at h
  · simp only [Option.bind_eq_some_iff] at h
    obtain ⟨row, h3, h⟩ := h
    obtain ⟨h4, h⟩ := if_k h
    exact ⟨_, by simp only [h3, h4, if_true, KE.abs, storeRowK_eq, Option.map_none], h⟩
  · obtain ⟨b, h3, hf, h⟩ := freshK_s h
    obtain ⟨row, h4, h⟩ := rowK_s h
    obtain ⟨h5, h⟩ := if_k h
    refine ⟨_, ?_, h⟩
    simp only [hf, show b.abs.rows = b.r.list from rfl, h4, h5, if_true, KE.abs, Option.map_some, set_abs, put_list h4]
  · cases h

theorem varK_s {esc : Bool} {hp : List KB} {dst : Option Nat} {ty : Nat} {cs : List AV} {k : KE → Option β} (h : varK esc hp dst ty cs k = some r) : ∃ e : KE, varA esc (absH hp) dst ty cs = some e.abs ∧ k e = some r := by
  unfold varK at h
  unfold varA
  split at h
  · cases esc with
    | true =>
      simp only [cond_true] at h ⊢
      obtain ⟨h1, h⟩ := if_k h
      exact ⟨_, by rw [if_pos h1]; simp only [KE.abs, Option.map_some, absH_app, absH_len]; rfl, h⟩
    | false => exact ⟨_, rfl, h⟩
  · cases h

theorem indexAddrK_s {hp : List KB} {ty : Nat} {x i : AV} {k : AV → Option β} (h : indexAddrK T hp ty x i k = some r) : ∃ v, indexAddrA T (absH hp) ty x i = some v ∧ k v = some r := by
  unfold indexAddrK at h
  split at h
  · split at h
    · obtain ⟨b, h1, hf, h⟩ := freshK_s h
      simp only [Option.bind_eq_some_iff] at h
      obtain ⟨⟨e, te⟩, h2, h⟩ := h
      obtain ⟨h3, h⟩ := if_k h
      obtain ⟨h4, h⟩ := if_k h
      obtain ⟨h5, h⟩ := if_k h
      exact ⟨_, by simp only [indexAddrA, hf, Option.bind_some, h2]; rw [if_pos ⟨h3, h4.1, h4.2, by rw [show b.abs.rows = b.r.list from rfl, KR.len_eq]; exact h5⟩], h⟩
    · obtain ⟨b, h1, hf, h⟩ := freshK_s h
      simp only [Option.bind_eq_some_iff] at h
      obtain ⟨⟨e, te⟩, h2, h⟩ := h
      obtain ⟨h3, h⟩ := if_k h
      obtain ⟨h4, h⟩ := if_k h
      exact ⟨_, by simp only [indexAddrA, hf, Option.bind_some, h2]; rw [if_pos ⟨h3, h4⟩], h⟩
    · rename_i ii _ sz rows
      simp only [Option.bind_eq_some_iff] at h
      obtain ⟨⟨e, te⟩, h2, h⟩ := h
      obtain ⟨h3, h⟩ := if_k h
      obtain ⟨h4, h⟩ := if_k h
      refine ⟨_, ?_, h⟩
      have := rowsAt_get rows 0 _ (Nat.zero_le _) (show ii.toNat < 0 + rows.length by omega)
      simp only [Nat.sub_zero] at this
      simp only [indexAddrA, h2, Option.bind_some]
      rw [if_pos ⟨h3, h4.1⟩, this]
      rfl
    · simp only [Option.bind_eq_some_iff] at h
      obtain ⟨⟨e, te⟩, h2, h⟩ := h
      obtain ⟨h3, h⟩ := if_k h
      obtain ⟨h4, h⟩ := if_k h
      exact ⟨_, by simp only [indexAddrA, h2, Option.bind_some]; rw [if_pos ⟨h3, h4⟩], h⟩
    · simp only [Option.bind_eq_some_iff] at h
      obtain ⟨⟨e, te⟩, h2, h⟩ := h
      obtain ⟨h3, h⟩ := if_k h
      obtain ⟨h4, h⟩ := if_k h
      exact ⟨_, by simp only [indexAddrA, h2, Option.bind_some]; rw [if_pos ⟨h3, h4⟩], h⟩
    · simp only [Option.bind_eq_some_iff] at h
      obtain ⟨⟨e, te⟩, h2, h⟩ := h
      obtain ⟨h3, h⟩ := if_k h
      obtain ⟨h4, h⟩ := if_k h
      exact ⟨_, by simp only [indexAddrA, h2, Option.bind_some]; rw [if_pos ⟨h3, h4⟩], h⟩
    · simp only [Option.bind_eq_some_iff] at h
      obtain ⟨⟨n, te⟩, h2, h⟩ := h
      obtain ⟨h4, h⟩ := if_k h
      exact ⟨_, by simp only [indexAddrA, h2, Option.bind_some]; rw [if_pos h4], h⟩
    · simp only [Option.bind_eq_some_iff] at h
      obtain ⟨⟨n, te⟩, h2, h⟩ := h
      obtain ⟨h4, h⟩ := if_k h
      exact ⟨_, by simp only [indexAddrA, h2, Option.bind_some]; rw [if_pos h4], h⟩
    · obtain ⟨b, h1, hf, h⟩ := freshK_s h
      simp only [Option.bind_eq_some_iff] at h
      obtain ⟨⟨n, te⟩, h2, h⟩ := h
      obtain ⟨h4, h⟩ := if_k h
      exact ⟨_, by simp only [indexAddrA, hf, Option.bind_some, h2]; rw [if_pos h4], h⟩
    · cases h
  · cases h

theorem indexK_s {ty : Nat} {x i : AV} {k : AV → Option β} (h : indexK T ty x i k = some r) : ∃ v, indexA T ty x i = some v ∧ k v = some r := by
  unfold indexK at h
  split at h
  · split at h
    · obtain ⟨h1, h⟩ := bif_k h
      obtain ⟨h2, h⟩ := if_k h
      refine ⟨_, ?_, h⟩
      simp only [indexA, h1, cond_true, h2.1, if_true]
      rw [byteAt_get (by omega)]
      rfl
    · simp only [Option.bind_eq_some_iff] at h
      obtain ⟨⟨n, te⟩, h2, h⟩ := h
      obtain ⟨h4, h⟩ := if_k h
      obtain ⟨v, h5, h⟩ := partK_s h
      exact ⟨v, by simp only [indexA, h2, Option.bind_some]; rw [if_pos h4]; exact h5, h⟩
    · cases h
  · cases h

theorem cutK_s {n : Nat} {lo hi : Option Int} {k : Nat → Nat → Option β} (h : cutK n lo hi k = some r) : ∃ a b, cut n lo hi = some (a, b) ∧ k a b = some r := by
  unfold cutK at h
  obtain ⟨h1, h⟩ := if_k h
  exact ⟨_, _, by unfold cut; rw [if_pos h1], h⟩

theorem sliceK_s {hp : List KB} {ty : Nat} {x : AV} {lo hi mx : Option Int} {k : AV → Option β} (h : sliceK T hp ty x lo hi mx k = some r) : ∃ v, sliceA T (absH hp) ty x lo hi mx = some v ∧ k v = some r := by
  unfold sliceK at h
  split at h
  · split at h
    · obtain ⟨h1, h⟩ := bif_k h
      obtain ⟨a, b, h2, h⟩ := cutK_s h
      exact ⟨_, by simp only [sliceA, h1, cond_true, h2, Option.map_some], h⟩
    · simp only [Option.bind_eq_some_iff] at h
      obtain ⟨e, h2, h⟩ := h
      obtain ⟨l, m, h6, h⟩ := cutK_s h
      exact ⟨_, by simp only [sliceA, h2, Option.bind_some, h6, Option.map_some], h⟩
    · simp only [Option.bind_eq_some_iff] at h
      obtain ⟨e, h2, h⟩ := h
      obtain ⟨l, m, h6, h⟩ := cutK_s h
      exact ⟨_, by simp only [sliceA, h2, Option.bind_some, h6, Option.map_some], h⟩
    · simp only [Option.bind_eq_some_iff] at h
      obtain ⟨⟨e, te⟩, h2, h⟩ := h
      obtain ⟨b, h3, hf, h⟩ := freshK_s h
      obtain ⟨h4, h⟩ := if_k h
      obtain ⟨h5, h⟩ := if_k h
      obtain ⟨l, m, h6, h⟩ := cutK_s h
      exact ⟨_, by simp only [sliceA, h2, Option.bind_some, hf]; rw [if_pos ⟨h4, by rw [show b.abs.rows = b.r.list from rfl, KR.len_eq]; exact h5⟩, h6]; rfl, h⟩
    · simp only [Option.bind_eq_some_iff] at h
      obtain ⟨⟨e, te⟩, h2, h⟩ := h
      obtain ⟨h4, h⟩ := if_k h
      obtain ⟨l, m, h6, h⟩ := cutK_s h
      exact ⟨_, by simp only [sliceA, h2, Option.bind_some]; rw [if_pos h4, h6]; rfl, h⟩
    · simp only [Option.bind_eq_some_iff] at h
      obtain ⟨⟨e, te⟩, h2, h⟩ := h
      obtain ⟨h4, h⟩ := if_k h
      obtain ⟨l, m, h6, h⟩ := cutK_s h
      exact ⟨_, by simp only [sliceA, h2, Option.bind_some]; rw [if_pos h4, h6]; rfl, h⟩
    · simp only [Option.bind_eq_some_iff] at h
      obtain ⟨⟨e, te⟩, h2, h⟩ := h
      obtain ⟨h4, h⟩ := if_k h
      obtain ⟨l, m, h6, h⟩ := cutK_s h
      exact ⟨_, by simp only [sliceA, h2, Option.bind_some]; rw [if_pos h4, h6]; rfl, h⟩
    · simp only [Option.bind_eq_some_iff] at h
      obtain ⟨⟨n, te⟩, h2, h⟩ := h
      obtain ⟨b, h3, hf, h⟩ := freshK_s h
      obtain ⟨h4, h⟩ := if_k h
      obtain ⟨h5, h⟩ := if_k h
      obtain ⟨l, m, h6, h⟩ := cutK_s h
      exact ⟨_, by simp only [sliceA, h2, Option.bind_some, hf]; rw [if_pos ⟨h4, by rw [show b.abs.rows = b.r.list from rfl, KR.len_eq]; exact h5⟩, h6]; rfl, h⟩
    · cases h
  · obtain ⟨h1, h⟩ := if_k h
    split at h
    · simp only [Option.bind_eq_some_iff] at h
      obtain ⟨e, h2, h⟩ := h
      exact ⟨_, by simp only [sliceA]; rw [if_pos h1, h2]; rfl, h⟩
    · simp only [Option.bind_eq_some_iff] at h
      obtain ⟨e, h2, h⟩ := h
      exact ⟨_, by simp only [sliceA]; rw [if_pos h1, h2]; rfl, h⟩
    · simp only [Option.bind_eq_some_iff] at h
      obtain ⟨e, h2, h⟩ := h
      obtain ⟨b, h3, hf, h⟩ := freshK_s h
      exact ⟨_, by simp only [sliceA]; rw [if_pos h1, h2]; simp only [Option.bind_some, hf, Option.map_some], h⟩
    · simp only [Option.bind_eq_some_iff] at h
      obtain ⟨e, h2, h⟩ := h
      exact ⟨_, by simp only [sliceA]; rw [if_pos h1, h2]; rfl, h⟩
    · simp only [Option.bind_eq_some_iff] at h
      obtain ⟨e, h2, h⟩ := h
      exact ⟨_, by simp only [sliceA]; rw [if_pos h1, h2]; rfl, h⟩
    · cases h

theorem lenK_s {hp : List KB} {ty : Nat} {x : AV} {k : AV → Option β} (h : lenK T hp ty x k = some r) : ∃ v, lenA T (absH hp) ty x = some v ∧ k v = some r := by
  unfold lenK at h
  split at h
  · simp only [Option.bind_eq_some_iff] at h
    obtain ⟨e, h2, h⟩ := h
    obtain ⟨b, h3, hf, h⟩ := freshK_s h
    exact ⟨_, by simp only [lenA, h2, Option.bind_some, hf, Option.map_some], h⟩
  · simp only [Option.bind_eq_some_iff] at h
    obtain ⟨e, h2, h⟩ := h
    obtain ⟨b, h3, hf, h⟩ := freshK_s h
    exact ⟨_, by simp only [lenA, h2, Option.bind_some, hf, Option.map_some], h⟩
  · rename_i hn1 hn2
    simp only [Option.bind_eq_some_iff] at h
    obtain ⟨v, h1, h⟩ := h
    refine ⟨v, ?_, h⟩
    cases x <;> first | exact h1 | exact absurd rfl (hn1 _ _ _ _) | exact absurd rfl (hn2 _ _ _ _ _)

theorem rowsK_s {hp : List KB} {size : Nat} {x : AV} {k : KR → Option β} (h : rowsK hp size x k = some r) : ∃ v, rowsA (absH hp) size x = some v.list ∧ k v = some r := by
  unfold rowsK at h
  split at h
  · obtain ⟨b, h3, hf, h⟩ := freshK_s h
    obtain ⟨h4, h⟩ := if_k h
    obtain ⟨h5, h⟩ := if_k h
    refine ⟨_, ?_, h⟩
    simp only [rowsA, hf, Option.bind_some]
    rw [if_pos ⟨h4, by rw [show b.abs.rows = b.r.list from rfl, KR.len_eq]; exact h5⟩, KR.cut_list _ _ _ h5]
    rfl
  · exact ⟨_, rfl, h⟩
  · exact ⟨_, rfl, h⟩
  · obtain ⟨h1, h⟩ := if_k h
    exact ⟨_, by simp only [rowsA, h1, if_true]; rfl, h⟩
  · obtain ⟨h1, h⟩ := if_k h
    exact ⟨_, by simp only [rowsA, h1, if_true]; rfl, h⟩
  · obtain ⟨h1, h⟩ := if_k h
    exact ⟨_, by simp only [rowsA, h1, if_true]; rfl, h⟩
  · obtain ⟨h1, h⟩ := if_k h
    exact ⟨_, by simp only [rowsA, h1, if_true, strRows_list], h⟩
  · cases h

theorem onto_list (ty : Bool) (zero : List AV) (x : KR) : (onto ty zero x).list = x.list := by
  unfold onto
  split
  · exact KR.opt_list _ _ _
  · rfl

theorem append_nil {s : AV} (hs : s = .nilsl ∨ s = .esl) {ty : Bool} {hp : List KB} {n0 e : Nat} {te : TI} {new : KR} {k : KE → Option β}
    (h : (bif decide (new.len = 0) then k { v := s } else bif decide (new.len ≤ most) then k { v := .sl hp.length 0 new.len new.len, hp := some (hp ++ [⟨e, te.size, onto ty te.zero new⟩]) } else none) = some r) :
    ∃ v : KE, appendA (absH hp) n0 e te s new.list = some v.abs ∧ k v = some r := by
  have hl := KR.len_eq new
  by_cases h0 : new.len = 0
  · simp only [h0, decide_true, cond_true] at h
    have : new.list = [] := List.length_eq_zero_iff.1 (hl.trans h0)
    rw [this]
    rcases hs with rfl | rfl <;> exact ⟨_, rfl, h⟩
  · simp only [h0, decide_false, cond_false] at h
    obtain ⟨h1, h⟩ := if_k h
    refine ⟨_, ?_, h⟩
    obtain ⟨a, l, hal⟩ : ∃ a l, new.list = a :: l := by
      cases hx : new.list with
      | nil => rw [hx] at hl; simp at hl; omega
      | cons a l => exact ⟨a, l, rfl⟩
    have hlen : (a :: l).length = new.len := by rw [← hal]; exact hl
    have habs : absH [(⟨e, te.size, onto ty te.zero new⟩ : KB)] = [⟨e, te.size, a :: l⟩] := by
      show [(⟨e, te.size, (onto ty te.zero new).list⟩ : Blk)] = _
      rw [onto_list, hal]
    rcases hs with rfl | rfl
    · rw [hal]
      simp only [appendA, hlen, KE.abs, Option.map_some, absH_app, absH_len, habs]
      rw [if_pos h1]
    · rw [hal]
      simp only [appendA, hlen, KE.abs, Option.map_some, absH_app, absH_len, habs]
      rw [if_pos h1]

theorem appendK_s {ty : Bool} {hp : List KB} {n0 e : Nat} {te : TI} {s : AV} {new : KR} {k : KE → Option β} (h : appendK ty hp n0 e te s new k = some r) : ∃ v : KE, appendA (absH hp) n0 e te s new.list = some v.abs ∧ k v = some r := by
  unfold appendK at h
  split at h
  · rename_i q n t
    obtain ⟨b, h1, hf, h⟩ := freshK_s h
    obtain ⟨h2, h⟩ := if_k h
    obtain ⟨h3, h⟩ := if_k h
    have hl := KR.len_eq new
    by_cases hnt : n = t
    · simp only [hnt, decide_true, cond_true] at h
      subst hnt
      refine ⟨_, ?_, h⟩
      simp only [appendA, hf, hl]
      rw [if_pos ⟨h2.1, h2.2, h3⟩, if_pos trivial]
      simp only [KE.abs, Option.map_some, set_abs, KR.app_list]
      rfl
    · simp only [hnt, decide_false, cond_false] at h
      obtain ⟨h4, h⟩ := if_k h
      obtain ⟨h5, h⟩ := if_k h
      refine ⟨_, ?_, h⟩
      simp only [appendA, hf, hl]
      rw [if_pos ⟨h2.1, h2.2, h3⟩, if_neg hnt, if_pos h4]
      simp only [KE.abs, Option.map_some, set_abs, KR.over_list _ _ _ h5, hl]
      rfl
  · exact append_nil (.inl rfl) h
  · exact append_nil (.inr rfl) h
  · cases h

theorem clearK_s {hp : List KB} {n0 : Nat} {zero : List AV} {x : AV} {k : KE → Option β} (h : clearK hp n0 zero x k = some r) : ∃ e : KE, clearA (absH hp) n0 zero x = some e.abs ∧ k e = some r := by
  unfold clearK at h
  split at h
  · exact ⟨_, rfl, h⟩
  · exact ⟨_, rfl, h⟩
  · rename_i q r0 n t
    obtain ⟨b, h1, hf, h⟩ := freshK_s h
    obtain ⟨h2, h⟩ := if_k h
    obtain ⟨h3, h⟩ := if_k h
    refine ⟨_, ?_, h⟩
    have hl : (b.r.madeAs n zero).len = n := (KR.len_eq _).symm.trans ((congrArg List.length (KR.madeAs_list b.r n zero)).trans List.length_replicate)
    simp only [clearA, hf, Option.bind_some]
    rw [if_pos ⟨by rw [show b.abs.rows = b.r.list from rfl, KR.len_eq]; exact h2, h3⟩]
    simp only [KE.abs, Option.map_some, set_abs]
    rw [KR.over_list _ _ _ (by rw [hl]; exact h2), KR.madeAs_list, List.length_replicate]
    rfl
  · cases h

theorem foldI_congr {f g : Int → Int → Int} (h : ∀ x y, f x y = g x y) : ∀ (l : List AV) (k : IntKind) (n : Int), foldI f k n l = foldI g k n l
  | [], k, n => rfl
  | x :: l, k, n => by cases x <;> simp [foldI, h, foldI_congr h l]

theorem builtinK_s {ty : Bool} {st : KS} {b : Builtin} {tys : List Nat} {vs : List AV} {k : KE → Option β} (h : builtinK T ty st b tys vs k = some r) : ∃ e : KE, builtinA T st.abs b tys vs = some e.abs ∧ k e = some r := by
  unfold builtinK at h
  split at h
  · obtain ⟨v, h1, h⟩ := lenK_s h
    exact ⟨_, by simp only [builtinA, KS.abs, h1, val, Option.map_some]; rfl, h⟩
  · simp only [Option.bind_eq_some_iff] at h
    obtain ⟨e, h1, h⟩ := h
    exact ⟨_, by simp only [builtinA, h1, Option.map_some]; rfl, h⟩
  · rename_i ty1 ty2 s x
    simp only [Option.bind_eq_some_iff] at h
    obtain ⟨⟨e, te⟩, h1, h⟩ := h
    obtain ⟨h2, h⟩ := if_k h
    simp only [builtinA, h1, Option.bind_some]
    rw [if_pos h2]
    cases hi : isInt T ty2 with
    | true =>
      rw [hi] at h
      simp only [cond_true] at h ⊢
      split at h
      · obtain ⟨h3, h⟩ := if_k h
        obtain ⟨v, h4, h⟩ := appendK_s h
        rw [KR.made_list] at h4
        exact ⟨v, by simp only; rw [if_pos h3]; exact h4, h⟩
      · cases h
    | false =>
      rw [hi] at h
      simp only [cond_false] at h ⊢
      obtain ⟨h3, h⟩ := bif_k h
      obtain ⟨new, h4, h⟩ := rowsK_s h
      obtain ⟨v, h5, h⟩ := appendK_s h
      exact ⟨v, by rw [h3]; simp only [cond_true, KS.abs, h4, Option.bind_some]; exact h5, h⟩
  · simp only [Option.bind_eq_some_iff] at h
    obtain ⟨⟨e, te⟩, h1, h⟩ := h
    obtain ⟨v, h2, h⟩ := clearK_s h
    exact ⟨v, by simp only [builtinA, h1, Option.bind_some]; exact h2, h⟩
  · simp only [Option.bind_eq_some_iff] at h
    obtain ⟨v, h1, h⟩ := h
    refine ⟨_, ?_, h⟩
    simp only [builtinA]
    rw [foldI_congr (g := fun x y => bif decide (y > x) then y else x) (fun x y => by by_cases hc : y > x <;> simp [hc]), h1]
    rfl
  · simp only [Option.bind_eq_some_iff] at h
    obtain ⟨v, h1, h⟩ := h
    refine ⟨_, ?_, h⟩
    simp only [builtinA]
    rw [foldI_congr (g := fun x y => bif decide (y < x) then y else x) (fun x y => by by_cases hc : y < x <;> simp [hc]), h1]
    rfl
  · cases h

theorem pickK_s {c a b : AV} {k : AV → Option β} (h : pickK c a b k = some r) : ∃ v, pickA c a b = some v ∧ k v = some r := by
  unfold pickK at h
  split at h
  · rename_i t
    refine ⟨_, ?_, h⟩
    rw [selV_eq]
    unfold pickA
    cases a <;> cases b <;> cases t <;> rfl
  · cases h

theorem convK_s {hp : List KB} {src dst : Nat} {x : AV} {k : AV → Option β} (h : convK T hp src dst x k = some r) : ∃ v, convA T (absH hp) src dst x = some v ∧ k v = some r := by
  unfold convK at h
  simp only [Option.bind_eq_some_iff] at h
  obtain ⟨ts, h1, ti, h2, h⟩ := h
  simp only [convA, h1, h2, Option.bind_some]
  split at h
  · rename_i kk hd
    rw [hd]
    split at h
    · exact ⟨_, rfl, h⟩
    · cases h
  · rename_i hd
    rw [hd]
    split at h
    · exact ⟨_, rfl, h⟩
    · obtain ⟨h3, h⟩ := bif_k h
      obtain ⟨rows, h4, h⟩ := rowsK_s h
      simp only [Option.bind_eq_some_iff] at h
      obtain ⟨s, h5, h⟩ := h
      obtain ⟨l, h6, rfl⟩ := bytesK_s h5
      exact ⟨_, by simp only [h3, cond_true, h4, Option.bind_some, h6, Option.map_some], h⟩
    · cases h
  · cases h

/-- the calls with what comes behind are calls -/
def RK (rec : RecK β) (R : Rec) : Prop := ∀ f vs hp k r, rec f vs hp k = some r → ∃ v hp' c, R f vs (absH hp) = some (v, absH hp', c) ∧ k v hp' c = some r

theorem callK_s {rec : RecK β} {R : Rec} {hp : List KB} {n0 f : Nat} {vs : List AV} {k : KE → Option β} (hR : RK rec R) (h : callK rec hp n0 f vs k = some r) : ∃ e : KE, callA R (absH hp) n0 f vs = some e.abs ∧ k e = some r := by
  unfold callK at h
  obtain ⟨h1, h⟩ := bif_k h
  obtain ⟨v, hp', c, h2, h⟩ := hR _ _ _ _ _ h
  exact ⟨_, by simp only [callA, h1, cond_true, h2, Option.map_some]; rfl, h⟩

theorem effK_s {rec : RecK β} {R : Rec} {cfg : Cfg} {ty : Typed} {o : Oper} {st : KS} {k : KE → Option β} (hR : RK rec R) (h : effK T rec cfg ty o st k = some r) : ∃ e : KE, eff T R cfg o st.abs = some e.abs ∧ k e = some r := by
  have henv : st.abs.env = st.env := rfl
  have hlo : st.abs.lo = st.lo := rfl
  have hhp : st.abs.hp = absH st.hp := rfl
  have hn0 : st.abs.n0 = st.n0 := rfl
  unfold effK at h
  unfold eff
  simp only [henv, hlo, hhp, hn0]
  split at h
  · rename_i ho
    simp only [Option.bind_eq_some_iff] at h
    obtain ⟨v, h1, h⟩ := h
    exact ⟨_, by rw [ho]; simp only [h1, val, Option.map_some]; rfl, h⟩
  · rename_i ho
    simp only [Option.bind_eq_some_iff] at h
    obtain ⟨v, h1, h⟩ := h
    exact ⟨_, by rw [ho]; simp only [h1, val, Option.map_some]; rfl, h⟩
  · rename_i ho
    simp only [Option.bind_eq_some_iff] at h
    obtain ⟨c, h1, a, h2, b, h3, h⟩ := h
    obtain ⟨v, h4, h⟩ := pickK_s h
    exact ⟨_, by rw [ho]; simp only [h1, h2, h3, Option.bind_some, h4, val, Option.map_some]; rfl, h⟩
  · rename_i ho
    simp only [Option.bind_eq_some_iff] at h
    obtain ⟨ti, h1, h⟩ := h
    obtain ⟨e, h2, h⟩ := varK_s h
    exact ⟨_, by rw [ho]; simp only [h1, Option.bind_some, h2], h⟩
  · rename_i ho
    simp only [Option.bind_eq_some_iff] at h
    obtain ⟨ti, h1, v, h2, h⟩ := h
    obtain ⟨h3, h⟩ := bif_k h
    simp only [Bool.and_eq_true, decide_eq_true_eq] at h3
    obtain ⟨e, h4, h⟩ := varK_s h
    exact ⟨_, by rw [ho]; simp only [h1, h2, Option.bind_some]; rw [if_pos h3]; exact h4, h⟩
  · rename_i ho
    simp only [Option.bind_eq_some_iff] at h
    obtain ⟨ps, h1, cs, h2, h⟩ := h
    exact ⟨_, by rw [ho]; simp only [h1, h2, Option.bind_some, val, Option.map_some]; rfl, h⟩
  · rename_i ho
    simp only [Option.bind_eq_some_iff] at h
    obtain ⟨⟨e, te⟩, h1, ps, h2, h⟩ := h
    obtain ⟨h3, h⟩ := if_k h
    simp only [Option.bind_eq_some_iff] at h
    obtain ⟨rows, h4, h⟩ := h
    rw [ho]
    simp only [h1, h2, Option.bind_some]
    rw [if_pos h3]
    simp only [h4, Option.bind_some]
    cases hv : cfg.virt.contains (o.dst.getD 0) with
    | true =>
      rw [hv] at h
      exact ⟨_, rfl, h⟩
    | false =>
      rw [hv] at h
      refine ⟨_, ?_, h⟩
      simp only [cond_false, KE.abs, Option.map_some, absH_app, absH_len]
      simp only [absH, List.map_cons, List.map_nil, KB.abs, KR.opt_list]
  · rename_i ho
    simp only [Option.bind_eq_some_iff] at h
    obtain ⟨p, h1, h⟩ := h
    obtain ⟨v, h2, h⟩ := loadK_s h
    exact ⟨_, by rw [ho]; simp only [h1, Option.bind_some, h2, val, Option.map_some]; rfl, h⟩
  · rename_i ho
    simp only [Option.bind_eq_some_iff] at h
    obtain ⟨p, h1, v, h2, h⟩ := h
    obtain ⟨e, h3, h⟩ := storeK_s h
    exact ⟨e, by rw [ho]; simp only [h1, Option.bind_some, h2, h3], h⟩
  · rename_i ho
    simp only [Option.bind_eq_some_iff] at h
    obtain ⟨p, h1, h⟩ := h
    rw [ho]
    simp only [h1, Option.bind_some]
    split at h
    · exact ⟨_, rfl, h⟩
    · exact ⟨_, rfl, h⟩
    · obtain ⟨b, _, hf, h⟩ := freshK_s h
      exact ⟨_, by simp only [hf, Option.map_some]; rfl, h⟩
    · exact ⟨_, rfl, h⟩
    · cases h
  · rename_i ho
    simp only [Option.bind_eq_some_iff] at h
    obtain ⟨a, h1, b, h2, h⟩ := h
    obtain ⟨v, h3, h⟩ := binAK_s h
    exact ⟨_, by rw [ho]; simp only [h1, Option.bind_some, h2, h3, val, Option.map_some]; rfl, h⟩
  · rename_i ho
    simp only [Option.bind_eq_some_iff] at h
    obtain ⟨a, h1, v, h3, h⟩ := h
    exact ⟨_, by rw [ho]; simp only [h1, Option.bind_some, h3, val, Option.map_some]; rfl, h⟩
  · rename_i ho
    simp only [Option.bind_eq_some_iff] at h
    obtain ⟨a, h1, h⟩ := h
    obtain ⟨v, h3, h⟩ := convK_s h
    exact ⟨_, by rw [ho]; simp only [h1, Option.bind_some, h3, val, Option.map_some]; rfl, h⟩
  · rename_i ho
    split at h
    · obtain ⟨h1, h⟩ := if_k h
      simp only [Option.bind_eq_some_iff] at h
      obtain ⟨vs, h2, h⟩ := h
      obtain ⟨h3, h⟩ := bif_k h
      exact ⟨_, by rw [ho]; simp only [h1, if_true, h2, Option.bind_some, h3, cond_true]; rfl, h⟩
    · cases h
  · rename_i ho
    simp only [Option.bind_eq_some_iff] at h
    obtain ⟨⟨e, te⟩, h1, l, h2, c, h3, h⟩ := h
    split at h
    · obtain ⟨h4, h⟩ := if_k h
      obtain ⟨h5, h⟩ := if_k h
      refine ⟨_, ?_, h⟩
      rw [ho]
      simp only [h1, Option.bind_some, h2, h3]
      rw [if_pos ⟨h4.1, h4.2, h5⟩]
      simp only [KE.abs, Option.map_some, absH_app, absH_len]
      simp only [absH, List.map_cons, List.map_nil, KB.abs, KR.made_list]
    · cases h
  · rename_i ho
    simp only [Option.bind_eq_some_iff] at h
    obtain ⟨v, h1, l, h2, u, h3, m, h4, h⟩ := h
    obtain ⟨w, h5, h⟩ := sliceK_s h
    exact ⟨_, by rw [ho]; simp only [h1, Option.bind_some, h2, h3, h4, h5, val, Option.map_some]; rfl, h⟩
  · rename_i ho
    simp only [Option.bind_eq_some_iff] at h
    obtain ⟨p, h1, ⟨off, tf⟩, h2, h⟩ := h
    rw [ho]
    simp only [h1, Option.bind_some, fieldAddrA, h2]
    by_cases h3 : tf.size = 0
    · simp [h3] at h
    · simp only [h3, decide_false, cond_false] at h
      rw [if_neg h3]
      split at h
      · exact ⟨_, rfl, h⟩
      · exact ⟨_, rfl, h⟩
      · obtain ⟨b, _, hf, h⟩ := freshK_s h
        exact ⟨_, by simp only [hf, Option.map_some, val]; rfl, h⟩
      · cases h
  · rename_i ho
    simp only [Option.bind_eq_some_iff] at h
    obtain ⟨v, h1, h⟩ := h
    rw [ho]
    split at h
    · simp only [Option.bind_eq_some_iff] at h
      obtain ⟨⟨off, tf⟩, h2, h⟩ := h
      obtain ⟨v, h3, h⟩ := partK_s h
      exact ⟨_, by simp only [h1, Option.bind_some, fieldA, h2, h3, val, Option.map_some]; rfl, h⟩
    · cases h
  · rename_i ho
    simp only [Option.bind_eq_some_iff] at h
    obtain ⟨v, h1, i, h2, h⟩ := h
    obtain ⟨w, h5, h⟩ := indexAddrK_s h
    exact ⟨_, by rw [ho]; simp only [h1, Option.bind_some, h2, h5, val, Option.map_some]; rfl, h⟩
  · rename_i ho
    simp only [Option.bind_eq_some_iff] at h
    obtain ⟨v, h1, i, h2, h⟩ := h
    obtain ⟨w, h5, h⟩ := indexK_s h
    exact ⟨_, by rw [ho]; simp only [h1, Option.bind_some, h2, h5, val, Option.map_some]; rfl, h⟩
  · rename_i ho
    simp only [Option.bind_eq_some_iff] at h
    obtain ⟨v, h1, h⟩ := h
    rw [ho]
    simp only [h1, Option.bind_some]
    split at h
    · simp only [Option.bind_eq_some_iff] at h
      obtain ⟨v, h2, h⟩ := h
      exact ⟨_, by simp only [h2, val, Option.map_some]; rfl, h⟩
    · cases h
  · rename_i c ho
    simp only [Option.bind_eq_some_iff] at h
    obtain ⟨vs, h1, h⟩ := h
    rw [ho]
    simp only [h1, Option.bind_some]
    split at h
    · rename_i f hc
      obtain ⟨e, h2, h⟩ := callK_s hR h
      exact ⟨e, by simp only [hc, h2], h⟩
    · rename_i x hne hc
      simp only [Option.bind_eq_some_iff] at h
      obtain ⟨v, h2, h⟩ := h
      split at h
      · obtain ⟨e, h3, h⟩ := callK_s hR h
        refine ⟨e, ?_, h⟩
        simp only [hc]
        cases x with
        | func f => exact absurd rfl (hne f)
        | _ => simp only [h2, Option.bind_some]; exact h3
      · cases h
    · rename_i b hc
      obtain ⟨e, h2, h⟩ := builtinK_s h
      exact ⟨e, by simp only [hc, h2], h⟩
    · cases h
  · cases h

end
end Go.Proofs.Ytjdciikfbinchaa.Abs
