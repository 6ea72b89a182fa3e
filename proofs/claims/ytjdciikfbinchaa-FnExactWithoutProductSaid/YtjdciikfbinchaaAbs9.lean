/- The abstract machine: made slices, append, clear. -/
import Derived.Test.YtjdciikfbinchaaAbs8
namespace Go.Proofs.Ytjdciikfbinchaa.Abs
open Go

section
variable {P : Program} {M : Mem} {ρ : Rho} {β : Nat → Option Nat} {hp : List Blk} {lo : List (Nat × List AV)} {w : World}

/-- a slice type and its element's -/
theorem elemT_some {t e : Nat} {te : TI} (he : elemT (tiOf P) t = some (e, te)) : P.underlying t = some (.slice e) ∧ tiOf P e = some te := by
  unfold elemT at he
  split at he
  · rename_i ti ht
    obtain ⟨i, z, d, hi, hz, hzc, hzl, htd, hsz, hby, hd, _⟩ := tiOf_some ht
    obtain ⟨_, _, _, hsl, _, _⟩ := tyOf_eq (P := P) (t := t)
    split at he
    · rename_i e' he'
      simp only [Option.map_eq_some_iff] at he
      obtain ⟨te', hte, heq⟩ := he
      cases heq
      rw [htd] at he'
      exact ⟨hsl _ he', hte⟩
    · cases he
  · cases he

theorem arrT_some {t n : Nat} {te : TI} (he : arrT (tiOf P) t = some (n, te)) : ∃ e, P.underlying t = some (.array n e) ∧ tiOf P e = some te := by
  unfold arrT at he
  split at he
  · rename_i ti ht
    obtain ⟨i, z, d, hi, hz, hzc, hzl, htd, hsz, hby, hd, _⟩ := tiOf_some ht
    obtain ⟨_, _, _, _, har, _⟩ := tyOf_eq (P := P) (t := t)
    split at he
    · rename_i n' e' he'
      simp only [Option.map_eq_some_iff] at he
      obtain ⟨te', hte, heq⟩ := he
      cases heq
      rw [htd] at he'
      exact ⟨e', har _ _ he', hte⟩
    · cases he
  · cases he

theorem fieldT_some {t f off : Nat} {tf : TI} (he : fieldT (tiOf P) t f = some (off, tf)) : ∃ gs g, P.underlying t = some (.struct gs) ∧ gs[f]? = some g ∧ g.offset = off ∧ tiOf P g.type = some tf := by
  unfold fieldT at he
  split at he
  · rename_i ti ht
    obtain ⟨i, z, d, hi, hz, hzc, hzl, htd, hsz, hby, hd, _⟩ := tiOf_some ht
    obtain ⟨_, _, _, _, _, hst⟩ := tyOf_eq (P := P) (t := t)
    split at he
    · rename_i fs hfs
      rw [htd] at hfs
      obtain ⟨gs, hgs, rfl⟩ := hst _ hfs
      split at he
      · rename_i off' ft hf
        simp only [Option.map_eq_some_iff] at he
        obtain ⟨tf', htf, heq⟩ := he
        cases heq
        simp only [List.getElem?_map, Option.map_eq_some_iff] at hf
        obtain ⟨g, hg, hge⟩ := hf
        cases hge
        exact ⟨gs, g, hgs, by simpa using hg, rfl, htf⟩
      · cases he
    · cases he
  · cases he

theorem One.made {z : Array Value} (h : One z) (n : Nat) (hz : n ≠ 0 → 0 < z.size) : One (madeCells z n) := by
  intro j u hj
  unfold madeCells at hj
  rw [Array.getElem?_map] at hj
  cases hrg : (Array.range n)[j]? with
  | none => rw [hrg] at hj; cases hj
  | some k =>
    rw [hrg] at hj
    simp only [Option.map_some, Option.some.injEq] at hj
    have hne : n ≠ 0 := by
      rintro rfl
      simp at hrg
    have hm : k % z.size < z.size := Nat.mod_lt k (hz hne)
    rw [getElem!_pos z (k % z.size) hm] at hj
    exact h (k % z.size) u (by rw [Array.getElem?_eq_getElem hm, hj])

theorem made_get {z : Array Value} {sz : Nat} (hz : z.size = sz) (n i j : Nat) (hi : i < n) (hj : j < sz) : (madeCells z (n * sz))[i * sz + j]? = z[j]? := by
  have hlt : i * sz + j < n * sz := by
    have := Nat.mul_le_mul_right sz (show i + 1 ≤ n by omega)
    rw [Nat.succ_mul] at this
    omega
  unfold madeCells
  rw [Array.getElem?_map]
  have hr : (Array.range (n * sz))[i * sz + j]? = some (i * sz + j) := by simp [hlt]
  rw [hr]
  simp only [Option.map_some]
  have hmod : (i * sz + j) % z.size = j := by rw [hz, Nat.mul_comm, Nat.mul_add_mod, Nat.mod_eq_of_lt hj]
  rw [hmod, getElem!_pos z j (by omega), Array.getElem?_eq_getElem (by omega)]

theorem makeSlice_rel {t e : Nat} {te : TI} (he : elemT (tiOf P) t = some (e, te)) {n : Int} (hpos : 0 < te.size) (hb : te.bytes ≤ 1024) (h0 : 0 ≤ n) (hn : n ≤ (most : Nat)) :
    ∃ c, (Instr.makeSlice t (.int .i64 n) (.int .i64 n)).run P w = .ok (.slice (some ⟨w.heap.size, 0, none⟩) n.toNat n.toNat) (w.alloc (.cells c e)) ∧ c.size = n.toNat * te.size ∧ One c ∧
      (∀ row ∈ List.replicate n.toNat te.zero, row.length = te.size) ∧ RowsIn M ρ hp te.size (List.replicate n.toNat te.zero) c := by
  obtain ⟨hu, hte⟩ := elemT_some he
  obtain ⟨ie, ze, de, hie, hze, hzec, hzel, _, hse, hbe, _, _⟩ := tiOf_some hte
  obtain ⟨z1, z2, z3⟩ := zero_rel (M := M) (ρ := ρ) (hp := hp) hzec hzel
  unfold most at hn
  have hbytes : (ie.bytes : Int) * n ≤ 281474976710656 := by
    have h1 : (ie.bytes : Int) ≤ 1024 := by omega
    have := Int.mul_le_mul h1 hn h0 (by omega)
    omega
  have hrun := run_make (P := P) w t e ie ze hu hie hze .i64 .i64 n n h0 (Int.le_refl _) hbytes (by omega)
  refine ⟨_, hrun, by rw [size_madeCells, hse], One.made z2 _ (fun _ => by omega), fun row hrow => ?_, fun i row j x u hi hx hu => ?_⟩
  · rw [(List.mem_replicate.1 hrow).2]; omega
  · rw [List.getElem?_replicate] at hi
    split at hi
    · rename_i hlt
      cases hi
      have hj : j < ie.size := by have := (List.getElem?_eq_some_iff.1 hx).1; omega
      rw [hse, made_get (z1.trans rfl) n.toNat i j hlt hj] at hu
      exact z3 j x u hx hu
    · cases hi

/-- what is appended -/
structure News (M : Mem) (ρ : Rho) (hp : List Blk) (size : Nat) (new : List (List AV)) (news : List Value) : Prop where
  len : news.length = new.length * size
  rows : ∀ row ∈ new, row.length = size
  one : ∀ u ∈ news, u.oneCell' = true
  rel : ∀ (i : Nat) row (j : Nat) x u, new[i]? = some row → row[j]? = some x → news[i * size + j]? = some u → VRel M ρ hp x u

theorem News.nil (size : Nat) : News M ρ hp size [] [] := ⟨by simp, (fun _ hh => by cases hh), (fun _ hh => by cases hh), fun i row j x u hi => by simp at hi⟩

theorem src_core {ty2 size : Nat} {x : AV} {u : Value} {new : List (List AV)} (hR : Real M ρ β hp lo w.heap) (hk : isSrc (tiOf P) ty2 = true) (hx : ERel M ρ β hp x u) (hvi : ∀ k sz n q, x ≠ .vi k sz n q) (h : rowsA hp size x = some new) :
    ∃ news, Src P size ty2 u new.length news w ∧ News M ρ hp size new news := by
  have hkind : (∃ e', P.underlying ty2 = some (.slice e')) ∨ P.underlying ty2 = some .string := by
    unfold isSrc at hk
    split at hk
    · rename_i ti ht
      obtain ⟨i, z, d, hi, hz, hzc, hzl, htd, hsz, hby, hd, _⟩ := tiOf_some ht
      obtain ⟨_, hs, _, hsl, _, _⟩ := tyOf_eq (P := P) (t := ty2)
      rw [htd] at hk
      split at hk
      · rename_i e he; exact .inl ⟨e, hsl _ he⟩
      · rename_i he; exact .inr (hs he)
      · cases hk
    · cases hk
  have slice : ∀ (g off n cap : Nat) (news : List Value), news.length = n * size → (∀ j v, news[j]? = some v → w.cell? ⟨g, off + j, none⟩ = some v) → (∀ v ∈ news, v.oneCell' = true) →
      Src P size ty2 (.slice (some ⟨g, off, none⟩) n cap) n news w := fun g off n cap news h1 h2 h3 =>
    ⟨hkind, fun _ => rfl, run_firstCells_some w size n ⟨g, off, none⟩ n cap news h1 (fun j v hv => by rw [Addr.add_mid]; exact h2 j v hv), run_firstCells_some w.drew size n ⟨g, off, none⟩ n cap news h1 (fun j v hv => by rw [Addr.add_mid]; exact h2 j v hv), h1, h3⟩
  unfold rowsA at h
  split at h
  · cases h
    cases hx.v (fun _ _ e => by cases e)
    exact ⟨[], ⟨hkind, fun _ => rfl, by simp [Builtin.firstCells], by simp [Builtin.firstCells], by simp, fun _ hh => by cases hh⟩, News.nil _⟩
  · cases h
    cases hx.v (fun _ _ e => by cases e) with
    | esl a => exact ⟨[], ⟨hkind, fun _ => rfl, by cases a <;> simp [Builtin.firstCells, loadCells, loadCellsFrom], by cases a <;> simp [Builtin.firstCells, loadCells, loadCellsFrom], by simp, fun _ hh => by cases hh⟩, News.nil _⟩
  · rename_i sz rows
    split at h
    · rename_i hsz
      cases h
      subst hsz
      cases hx.v (fun _ _ e => by cases e) with
      | vs0 _ a cap => exact ⟨[], ⟨hkind, fun _ => rfl, by cases a <;> simp [Builtin.firstCells, loadCells, loadCellsFrom], by cases a <;> simp [Builtin.firstCells, loadCells, loadCellsFrom], by simp, fun _ hh => by cases hh⟩, News.nil _⟩
      | @vs _ _ g off cap c e f hM hone hn hlen hin h =>
        have hH := hR.mem _ _ hM
        have hget : ∀ j, j < new.length * sz → (c.extract off (off + new.length * sz)).toList[j]? = c[off + j]? := fun j hj => by
          rw [Array.getElem?_toList, Array.getElem?_extract, if_pos (by omega)]
        refine ⟨(c.extract off (off + new.length * sz)).toList, slice g off new.length cap _ (by simp; omega) (fun j v hv => ?_) (fun v hv => ?_), ⟨by simp; omega, hlen, fun v hv => ?_, fun i row j x u hi hx' hu => ?_⟩⟩
        · have hj : j < new.length * sz := by have := (List.getElem?_eq_some_iff.1 hv).1; simp at this; omega
          rw [cell_at hH, ← hget j hj]; exact hv
        · obtain ⟨j, hj⟩ := List.mem_iff_getElem?.1 hv
          rw [Array.getElem?_toList, Array.getElem?_extract] at hj
          split at hj
          · exact hone _ _ hj
          · cases hj
        · obtain ⟨j, hj⟩ := List.mem_iff_getElem?.1 hv
          rw [Array.getElem?_toList, Array.getElem?_extract] at hj
          split at hj
          · exact hone _ _ hj
          · cases hj
        · have hj : i * sz + j < new.length * sz := by have := (List.getElem?_eq_some_iff.1 hu).1; simp at this; omega
          rw [hget _ hj, ← Nat.add_assoc] at hu
          exact h i row j x u hi hx' hu
    · cases h
  · rename_i sz n f
    split at h
    · rename_i hsz
      cases h
      subst hsz
      have hl : ((List.range n).map f).length = n := by simp
      rw [hl]
      have hat : ∀ (i : Nat) row, ((List.range n).map f)[i]? = some row → i < n ∧ row = f i := fun i row hi => by
        rw [List.getElem?_map] at hi
        by_cases hin : i < n
        · rw [List.getElem?_range hin] at hi
          exact ⟨hin, (Option.some.inj hi).symm⟩
        · rw [List.getElem?_eq_none (by simp; omega)] at hi
          cases hi
      cases hx.v (fun _ _ e => by cases e) with
      | vf0 _ _ a cap => exact ⟨[], ⟨hkind, fun _ => rfl, by cases a <;> simp [Builtin.firstCells, loadCells, loadCellsFrom], by cases a <;> simp [Builtin.firstCells, loadCells, loadCellsFrom], by simp, fun _ hh => by cases hh⟩, News.nil _⟩
      | @vf _ _ _ g off cap c e fl hM hn hlen hin h =>
        have hH := hR.mem _ _ hM
        have hget : ∀ j, j < n * sz → (c.extract off (off + n * sz)).toList[j]? = c[off + j]? := fun j hj => by
          rw [Array.getElem?_toList, Array.getElem?_extract, if_pos (by omega)]
        have hones : ∀ v ∈ (c.extract off (off + n * sz)).toList, v.oneCell' = true := fun v hv => by
          obtain ⟨j, hj⟩ := List.mem_iff_getElem?.1 hv
          have hjl : j < n * sz := by have := (List.getElem?_eq_some_iff.1 hj).1; simp at this; omega
          rw [hget j hjl] at hj
          have hsz0 : 0 < sz := by
            apply Nat.pos_of_ne_zero
            rintro rfl
            simp at hjl
          have hdiv : j / sz < n := (Nat.div_lt_iff_lt_mul hsz0).2 hjl
          have hmod : j % sz < (f (j / sz)).length := by rw [hlen _ hdiv]; exact Nat.mod_lt _ hsz0
          refine (h (j / sz) (j % sz) _ v hdiv (List.getElem?_eq_getElem hmod) ?_).one
          rw [Nat.add_assoc, Nat.mul_comm, Nat.div_add_mod]
          exact hj
        refine ⟨(c.extract off (off + n * sz)).toList, slice g off n cap _ (by simp; omega) (fun j v hv => ?_) hones, ⟨by rw [hl]; simp; omega, fun row hrow => ?_, hones, fun i row j x u hi hx' hu => ?_⟩⟩
        · have hj : j < n * sz := by have := (List.getElem?_eq_some_iff.1 hv).1; simp at this; omega
          rw [cell_at hH, ← hget j hj]; exact hv
        · obtain ⟨i, hi⟩ := List.mem_iff_getElem?.1 hrow
          obtain ⟨hin', rfl⟩ := hat i row hi
          exact hlen i hin'
        · obtain ⟨hin', rfl⟩ := hat i row hi
          have hj : i * sz + j < n * sz := by have := (List.getElem?_eq_some_iff.1 hu).1; simp at this; omega
          rw [hget _ hj, ← Nat.add_assoc] at hu
          exact (h i j x u hin' hx' hu).v
    · cases h
  · exact absurd rfl (hvi _ _ _ _)
  · rename_i k r n t
    simp only [Option.bind_eq_some_iff] at h
    obtain ⟨b, hb, h⟩ := h
    obtain ⟨hb1, hb2⟩ := fresh_some hb
    split at h
    · rename_i hc
      obtain ⟨hsz, hrn⟩ := hc
      cases h
      subst hsz
      cases hx.v (fun _ _ e => by cases e) with
      | @sl _ _ _ _ _ b' l hb' hl _ _ h =>
        rw [hb1] at hb'
        cases hb'
        obtain ⟨off, cap, rfl, hnc, hoff, _⟩ := h hb2
        obtain ⟨l', c, hl', hat⟩ := hR.blk k b hb1
        rw [hl] at hl'
        cases hl'
        have hlen : ((b.rows.drop r).take n).length = n := by simp; omega
        rw [hlen]
        have hroom : (r + n) * b.sz ≤ b.rows.length * b.sz := Nat.mul_le_mul_right _ hrn
        rw [Nat.add_mul] at hroom
        have hcs := hat.size
        have hrm := hat.room
        have hget : ∀ j, j < n * b.sz → (c.extract (r * b.sz) (r * b.sz + n * b.sz)).toList[j]? = c[r * b.sz + j]? := fun j hj => by
          rw [Array.getElem?_toList, Array.getElem?_extract, if_pos (by omega)]
        have hones : ∀ v ∈ (c.extract (r * b.sz) (r * b.sz + n * b.sz)).toList, v.oneCell' = true := fun v hv => by
          obtain ⟨j, hj⟩ := List.mem_iff_getElem?.1 hv
          rw [Array.getElem?_toList, Array.getElem?_extract] at hj
          split at hj
          · exact hat.one _ _ hj
          · cases hj
        refine ⟨(c.extract (r * b.sz) (r * b.sz + n * b.sz)).toList, slice l.blk off n cap _ (by simp; omega) (fun j v hv => ?_) hones, ⟨by rw [hlen]; simp; omega, fun row hrow => hat.len row (List.mem_of_mem_drop (List.mem_of_mem_take hrow)), hones, fun i row j x u hi hx' hu => ?_⟩⟩
        · have hj : j < n * b.sz := by have := (List.getElem?_eq_some_iff.1 hv).1; simp at this; omega
          have hn0 : 0 < n := by
            rcases Nat.eq_zero_or_pos n with h0 | h0
            · rw [h0] at hj; simp at hj
            · exact h0
          rw [cell_at hat.at_, hoff (.inl hn0), ← hget j hj]; exact hv
        · rw [List.getElem?_take] at hi
          split at hi
          · rename_i hin
            rw [List.getElem?_drop] at hi
            have hj : i * b.sz + j < n * b.sz := by have := (List.getElem?_eq_some_iff.1 hu).1; simp at this; omega
            rw [hget _ hj, ← Nat.add_assoc, ← Nat.add_mul] at hu
            exact hat.rows (r + i) row j x u hi hx' hu
          · cases hi
    · cases h
  · rename_i s
    split at h
    · rename_i hsz
      cases h
      subst hsz
      rw [hx.str_inv]
      have hl : (s.data.toList.map fun b => [AV.int .u8 b.toNat]).length = s.size := by rw [List.length_map, Array.length_toList]; rfl
      rw [hl]
      refine ⟨byteCells s, ⟨hkind, fun _ => rfl, firstCells_string s w, firstCells_string s w.drew, by rw [byteCells_length, Nat.mul_one], fun u hu => ?_⟩, ⟨by rw [hl, byteCells_length, Nat.mul_one], fun row hrow => ?_, fun u hu => ?_, fun i row j x u hi hx' hu => ?_⟩⟩
      · obtain ⟨_, _, rfl⟩ := List.mem_map.1 hu; rfl
      · obtain ⟨_, _, rfl⟩ := List.mem_map.1 hrow; rfl
      · obtain ⟨_, _, rfl⟩ := List.mem_map.1 hu; rfl
      · rw [List.getElem?_map] at hi
        cases hb : s.data.toList[i]? with
        | none => rw [hb] at hi; cases hi
        | some b =>
          rw [hb] at hi
          simp only [Option.map_some, Option.some.injEq] at hi
          subst hi
          cases j with
          | zero =>
            simp at hx'
            subst hx'
            unfold byteCells at hu
            rw [Nat.mul_one, Nat.add_zero, List.getElem?_map, hb] at hu
            cases hu
            exact .int _ _
          | succ j => simp at hx'
    · cases h
  · cases h

theorem src_rel {ty2 size : Nat} {x : AV} {u : Value} {new : List (List AV)} (hR : Real M ρ β hp lo w.heap) (hk : isSrc (tiOf P) ty2 = true) (hx : ERel M ρ β hp x u) (h : rowsA hp size x = some new) :
    ∃ news, Src P size ty2 u new.length news w ∧ News M ρ hp size new news := by
  cases x with
  | vi k sz n q =>
    cases hx.v (fun _ _ e => by cases e) with
    | vi h' => exact src_core hR hk (.inr h') (fun _ _ _ _ e => by cases e) h
  | _ => exact src_core hR hk hx (fun _ _ _ _ e => by cases e) h

theorem News.zeros {size n : Nat} {zero : List AV} {z : Array Value} (hl : zero.length = size) (h1 : z.size = size) (h2 : One z) (h3 : CellsIn M ρ hp zero z) (hpos : 0 < size) :
    News M ρ hp size (List.replicate n zero) (Builtin.zeroCells z n).toList := by
  have hzm : Builtin.zeroCells z n = madeCells z (n * size) := by unfold Builtin.zeroCells madeCells; rw [h1]
  rw [hzm]
  refine ⟨by simp [size_madeCells], fun row hrow => by rw [(List.mem_replicate.1 hrow).2]; exact hl, fun u hu => ?_, fun i row j x u hi hx hu => ?_⟩
  · obtain ⟨j, hj⟩ := List.mem_iff_getElem?.1 hu
    exact One.made h2 _ (fun _ => by omega) j u (by simpa using hj)
  · rw [List.getElem?_replicate] at hi
    split at hi
    · rename_i hlt
      cases hi
      have hj : j < size := by have := (List.getElem?_eq_some_iff.1 hx).1; omega
      rw [Array.getElem?_toList, made_get h1 n i j hlt hj] at hu
      exact h3 j x u hx hu
    · cases hi

end
end Go.Proofs.Ytjdciikfbinchaa.Abs
