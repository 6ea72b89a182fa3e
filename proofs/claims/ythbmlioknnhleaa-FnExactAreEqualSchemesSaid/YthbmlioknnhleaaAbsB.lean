/- The abstract machine over the translated code, and its soundness: part B. -/
import Derived.Test.YthbmlioknnhleaaAbsA
import Derived.Deep.Upon
import Derived.Laws.BytesString
import Derived.Laws.BytesArg
/- The abstract machine: new variables, built values, made slices, append and clear. -/
namespace Go.Proofs.Ythbmlioknnhleaa.Abs
open Go

section
variable {P : Program} {M : Mem} {ρ : Rho} {β : Nat → Option Nat} {hp : List Blk} {lo : List (Nat × List AV)} {w : World}

/-! ### zero values -/
theorem zeroCells_rel : ∀ (l : List Value) (xs : List AV), Abs.zeroCells l = some xs → xs.length = l.length ∧ ∀ (j : Nat) u, l[j]? = some u → u.oneCell' = true ∧ ∀ x, xs[j]? = some x → VRel M ρ hp x u
  | [], xs, h => by simp [Abs.zeroCells] at h; subst h; exact ⟨rfl, fun j u hj => by simp at hj⟩
  | v :: l, xs, h => by
    simp only [Abs.zeroCells] at h
    split at h
    · rename_i x xs' hx hxs
      cases h
      obtain ⟨h1, h2⟩ := zeroCells_rel l xs' hxs
      refine ⟨by simp [h1], fun j u hj => ?_⟩
      cases j with
      | zero =>
        simp at hj
        subst hj
        refine ⟨?_, fun y hy => by simp at hy; subst hy; exact constAV_rel hx⟩
        unfold constAV at hx
        split at hx <;> first | rfl | cases hx
      | succ j => exact ⟨(h2 j u (by simpa using hj)).1, fun y hy => (h2 j u (by simpa using hj)).2 y (by simpa using hy)⟩
    · cases h

theorem zero_rel {ti : TI} {i : TypeInfo} {z : Value} (hz : Abs.zeroCells z.cells.toList = some ti.zero) (hl : ti.zero.length = i.size) :
    z.cells.size = i.size ∧ One z.cells ∧ CellsIn M ρ hp ti.zero z.cells := by
  obtain ⟨h1, h2⟩ := zeroCells_rel (M := M) (ρ := ρ) (hp := hp) _ _ hz
  refine ⟨by rw [← hl, h1]; rfl, fun j u hj => (h2 j u (by simpa using hj)).1, fun j x u hx hu => (h2 j u (by simpa using hu)).2 x hx⟩

/-! ### a new variable -/
theorem varA_rel {esc : Bool} {dst : Option Nat} {ty : Nat} {cs : List AV} {e : Eff} (hR : Real M ρ β hp lo w.heap) (he : varA esc hp dst ty cs = some e) {c : Array Value} (hs : c.size = cs.length) (hone : One c)
    (hc : CellsIn M ρ hp cs c) : PostE M ρ β hp lo w dst e (.pointer (some ⟨w.heap.size, 0, none⟩)) (w.alloc (.cells c ty)) := by
  unfold varA at he
  split at he
  · rename_i d
    cases esc with
    | true =>
      simp only [cond_true] at he
      split at he
      · rename_i hpos
        cases he
        have hE := Ext.snoc (ρ := ρ) (hp := hp) ⟨ty, cs.length, [cs]⟩ ⟨w.heap.size, c.size⟩
        have hR' := hR.snoc ⟨ty, cs.length, [cs]⟩ c hpos (by simp [hs]) (by simp) hone (fun i row j x u hi hx hu => by
          cases i with
          | zero => simp at hi; subst hi; exact hc j x u hx (by simpa using hu)
          | succ i => simp at hi)
        refine ⟨M, _, β, SubM.refl _, hE, hR', .inr ?_, ⟨rfl, rfl, rfl, by simp, Nat.le_refl _⟩, .inl rfl⟩
        exact .ptr (b := ⟨ty, cs.length, [cs]⟩) (l := ⟨w.heap.size, c.size⟩) (by simp) (upd_same _ _ _) (Nat.le_refl _) rfl (fun _ => by simp)
      · cases he
    | false =>
      simp only [cond_false, Option.some.injEq] at he
      subst he
      refine ⟨M, ρ, upd β d w.heap.size, SubM.refl _, Ext.refl _ _, hR.newVar d cs c ty hs hone hc, .inl ⟨d, 0, w.heap.size, rfl, upd_same _ _ _, rfl⟩, ⟨rfl, rfl, rfl, by simp, Nat.le_refl _⟩, .inr ⟨d, _, rfl, rfl, rfl⟩⟩
  · cases he

/-! ### built values -/
theorem foldl_set (off : Nat) : ∀ (l : List Value) (k : Nat) (c : Array Value), off + k + l.length ≤ c.size →
    let c' := (l.zipIdx k).foldl (fun cs (x : Value × Nat) => cs.setIfInBounds (off + x.2) x.1) c
    c'.size = c.size ∧ ∀ p, c'[p]? = if off + k ≤ p ∧ p < off + k + l.length then l[p - (off + k)]? else c[p]?
  | [], k, c, _ => ⟨rfl, fun p => by rw [if_neg (by rintro ⟨h1, h2⟩; simp at h2; omega)]; rfl⟩
  | v :: l, k, c, h => by
    simp only [List.length_cons] at h
    obtain ⟨h1, h2⟩ := foldl_set off l (k + 1) (c.setIfInBounds (off + k) v) (by simp; omega)
    refine ⟨by simpa using h1, fun p => ?_⟩
    have := h2 p
    simp only [List.zipIdx_cons, List.foldl_cons]
    rw [this]
    by_cases hp : p = off + k
    · subst hp
      have hlt : off + k < c.size := by omega
      rw [if_neg (by omega), if_pos (by simp)]
      simp [hlt]
    · by_cases hq : off + (k + 1) ≤ p ∧ p < off + (k + 1) + l.length
      · rw [if_pos hq, if_pos (by simp; omega), show p - (off + k) = (p - (off + (k + 1))) + 1 by omega]
        simp
      · rw [if_neg hq, if_neg (by simp; omega), Array.getElem?_setIfInBounds_ne (by omega)]

theorem fill_rel (place : Nat → Option (Nat × Nat)) : ∀ (ps : List (Nat × AV)) (us : List (Nat × Value)) (cs cs' : List AV) (c : Array Value), filled place ps cs = some cs' → us.length = ps.length →
    (∀ (j : Nat) i x i' u, ps[j]? = some (i, x) → us[j]? = some (i', u) → i' = i ∧ ERel M ρ β hp x u) → c.size = cs.length → One c → CellsIn M ρ hp cs c →
    ∃ c', Instr.fill place c us = some c' ∧ c'.size = cs'.length ∧ cs'.length = cs.length ∧ One c' ∧ CellsIn M ρ hp cs' c'
  | [], us, cs, cs', c, h, hl, _, hs, ho, hc => by
    simp only [filled, Option.some.injEq] at h
    simp only [List.length_nil, List.length_eq_zero_iff] at hl
    subst h; subst hl
    exact ⟨c, rfl, hs, rfl, ho, hc⟩
  | (i, x) :: ps, us, cs, cs', c, h, hl, hr, hs, ho, hc => by
    cases us with
    | nil => simp at hl
    | cons y us =>
      obtain ⟨i', u⟩ := y
      obtain ⟨rfl, hxu⟩ := hr 0 i x i' u rfl rfl
      simp only [filled] at h
      split at h
      · rename_i off s hpl
        split at h
        · rename_i hcond
          obtain ⟨hn, hlen, hfit⟩ := hcond
          obtain ⟨k1, k2, k3⟩ := cells_rel (hxu.noL hn) hn
          obtain ⟨f1, f2⟩ := foldl_set off u.cells.toList 0 c (by simp; omega)
          simp only [Nat.add_zero, Array.length_toList] at f1 f2
          have hsp := fun j => storeRow_get (x := .agg x.cells) (row := cs) (q := off) (by show off + x.cells.length ≤ _; omega) rfl j
          have hsp' : ∀ j, (splice cs off x.cells)[j]? = if off ≤ j ∧ j < off + x.cells.length then x.cells[j - off]? else cs[j]? := fun j => (hsp j).2
          have hspl : (splice cs off x.cells).length = cs.length := (hsp 0).1
          have hfold : u.cells.zipIdx.foldl (fun cs (c, j) => cs.setIfInBounds (off + j) c) c = (u.cells.toList.zipIdx 0).foldl (fun cs (x : Value × Nat) => cs.setIfInBounds (off + x.2) x.1) c := by
            rw [← Array.foldl_toList, Array.toList_zipIdx]
          obtain ⟨c', g1, g2, g3, g4, g5⟩ := fill_rel place ps us (splice cs off x.cells) cs' _ h (by simpa using hl) (fun j i x i' u a b => hr (j + 1) i x i' u (by simpa using a) (by simpa using b)) (f1.trans (by rw [hspl]; exact hs))
            (fun j v hj => by
              rw [f2] at hj
              split at hj
              · exact k2 _ _ (by simpa using hj)
              · exact ho _ _ hj)
            (fun j y v hy hv => by
              rw [f2] at hv
              rw [hsp'] at hy
              rw [k1] at hv
              split at hv
              · rename_i hjj
                rw [if_pos hjj] at hy
                exact k3 _ _ _ hy (by simpa using hv)
              · rename_i hjj
                rw [if_neg hjj] at hy
                exact hc _ _ _ hy hv)
          refine ⟨c', ?_, g2, g3.trans hspl, g4, g5⟩
          simp only [Instr.fill, hpl]
          rw [if_neg (by simp; omega), hfold]
          exact g1
        · cases h
      · cases h

theorem packed_filled (place : Nat → Option (Nat × Nat)) : ∀ (pl : List (Nat × Nat)) (ps : List (Nat × AV)) (i at_ : Nat) (l : List (List AV)) (cs : List AV), packed pl ps i at_ = some l → (∀ j, place (i + j) = pl[j]?) →
    at_ + l.flatten.length = cs.length → filled place ps cs = some (cs.take at_ ++ l.flatten)
  | [], [], i, at_, l, cs, h, _, hl => by
    simp [packed] at h
    subst h
    simp only [List.flatten_nil, List.length_nil, Nat.add_zero] at hl
    simp [filled, hl]
  | (off, s) :: pl, (j, v) :: ps, i, at_, l, cs, h, hp', hl => by
    simp only [packed] at h
    split at h
    · rename_i hc
      obtain ⟨rfl, rfl, hn, hs⟩ := hc
      simp only [Option.map_eq_some_iff] at h
      obtain ⟨l', hl', rfl⟩ := h
      simp only [List.flatten_cons, List.length_append] at hl
      have h0 : place j = some (off, s) := by have := hp' 0; simpa using this
      have hsp := fun k => storeRow_get (x := .agg v.cells) (row := cs) (q := off) (by show off + v.cells.length ≤ _; omega) rfl k
      have hsp' : ∀ k, (splice cs off v.cells)[k]? = if off ≤ k ∧ k < off + v.cells.length then v.cells[k - off]? else cs[k]? := fun k => (hsp k).2
      have hspl : (splice cs off v.cells).length = cs.length := (hsp 0).1
      have ih := packed_filled place pl ps (j + 1) (off + s) l' (splice cs off v.cells) hl' (fun k => by have := hp' (k + 1); rw [show j + 1 + k = j + (k + 1) by omega]; simpa using this) (by rw [hspl]; omega)
      simp only [filled, h0]
      rw [if_pos ⟨hn, hs, by omega⟩, ih]
      congr 1
      rw [List.flatten_cons, ← List.append_assoc]
      congr 1
      apply List.ext_getElem?
      intro k
      rw [List.getElem?_take, hsp']
      by_cases hk : k < off
      · rw [if_pos (by omega), if_neg (by omega), List.getElem?_append_left (by simp; omega), List.getElem?_take, if_pos hk]
      · have hlt : (cs.take off).length = off := by simp; omega
        rw [List.getElem?_append_right (by omega), hlt]
        by_cases hk2 : k < off + s
        · rw [if_pos hk2, if_pos (by omega)]
        · rw [if_neg hk2, List.getElem?_eq_none (by omega)]
    · cases h
  | [], _ :: _, _, _, _, _, h, _, _ => by simp [packed] at h
  | _ :: _, [], _, _, _, _, h, _, _ => by simp [packed] at h

theorem fillA_filled {pl : List (Nat × Nat)} {parts : List (Nat × AV)} {zero cs : List AV} (h : fillA pl parts zero = some cs) : filled (fun i => pl[i]?) parts zero = some cs := by
  unfold fillA at h
  split at h
  · exact h
  · split at h
    · rename_i l hl
      split at h
      · rename_i hlen
        cases h
        have := packed_filled (fun i => pl[i]?) pl parts 0 0 l zero hl (fun j => by simp) (by omega)
        simpa using this
      · cases h
    · exact h

theorem opds_rel {env : List (Nat × AV)} {a : Act} : ∀ (l : List (Nat × Operand)) (ps : List (Nat × AV)), opds env l = some ps → (∀ t, Operand.tmp t ∈ l.map (·.2) → ERel M ρ β hp (get env t) (a.tmps.getD t undef)) →
    (l.map fun (i, x) => (i, a.eval x)).length = ps.length ∧ ∀ (j : Nat) i x i' u, ps[j]? = some (i, x) → (l.map fun (i, x) => (i, a.eval x))[j]? = some (i', u) → i' = i ∧ ERel M ρ β hp x u
  | [], ps, h, _ => by
    simp [opds] at h
    subst h
    exact ⟨rfl, fun j i x i' u hj => by simp at hj⟩
  | (i, x) :: l, ps, h, hE => by
    simp only [opds] at h
    split at h
    · rename_i v vs hv hvs
      cases h
      obtain ⟨h1, h2⟩ := opds_rel l vs hvs fun t ht => hE t (by simp only [List.map_cons]; exact List.mem_cons_of_mem _ ht)
      refine ⟨by simpa using h1, fun j i' y i'' u hy hu => ?_⟩
      cases j with
      | zero =>
        simp at hy hu
        obtain ⟨rfl, rfl⟩ := hy
        obtain ⟨rfl, rfl⟩ := hu
        exact ⟨rfl, opd_rel hv fun t ht => hE t (by simp [ht])⟩
      | succ j => exact h2 j i' y i'' u (by simpa using hy) (by simpa using hu)
    · cases h

theorem placesT_get : ∀ (gs : List Field) (pl : List (Nat × Nat)), placesT (tiOf P) (gs.map fun f => (f.offset, f.type)) = some pl →
    (gs.mapM fun f => (do pure (f.offset, ← Go.sizeOf f.type) : Sem (Nat × Nat))).run P w = .ok pl w
  | [], pl, h => by simp [placesT] at h; subst h; simp
  | f :: gs, pl, h => by
    simp only [List.map_cons, placesT] at h
    split at h
    · rename_i s ss hs hss
      cases h
      have ih := placesT_get gs ss hss
      unfold sizeT at hs
      simp only [Option.map_eq_some_iff] at hs
      obtain ⟨ti, ht, rfl⟩ := hs
      obtain ⟨i, z, d, hi, _, _, _, _, hsz, _, _, _⟩ := tiOf_some ht
      simp only [List.mapM_cons, Sem.run_bind, run_sizeOf' hi, Result.andThen_ok, Sem.run_pure, ih, hsz]
    · cases h

theorem run_zeroValue' {t : Nat} {i : TypeInfo} {z : Value} (hi : P.info? t = some i) (hz : i.zero = some z) : (zeroValue t).run P w = .ok z w := by simp [zeroValue, run_typeInfo' hi, hz]

theorem evenly_get (n s i : Nat) : (evenly n s)[i]? = if i < n then some (i * s, s) else none := by
  unfold evenly
  by_cases h : i < n <;> simp [h]

theorem fill_congr {place place' : Nat → Option (Nat × Nat)} : ∀ (us : List (Nat × Value)) (c : Array Value), (∀ x ∈ us, place x.1 = place' x.1) → Instr.fill place c us = Instr.fill place' c us
  | [], _, _ => rfl
  | (i, u) :: us, c, h => by
    have h0 := h (i, u) (by simp)
    simp only at h0
    simp only [Instr.fill, h0]
    cases place' i with
    | none => rfl
    | some x =>
      obtain ⟨off, s⟩ := x
      simp only
      split
      · rfl
      · exact fill_congr us _ fun x hx => h x (by simp [hx])

theorem filled_names {place : Nat → Option (Nat × Nat)} : ∀ (ps : List (Nat × AV)) (cs cs' : List AV), filled place ps cs = some cs' → ∀ x ∈ ps, (place x.1).isSome = true
  | [], _, _, _, x, hx => by simp at hx
  | (i, v) :: ps, cs, cs', h, x, hx => by
    simp only [filled] at h
    split at h
    · rename_i off s hpl
      split at h
      · rcases List.mem_cons.1 hx with rfl | hx
        · simp [hpl]
        · exact filled_names ps _ _ h x hx
      · cases h
    · cases h

theorem build_rel {t : Nat} {ps : List (Nat × AV)} {us : Array (Nat × Value)} {cs : List AV} (h : buildA (tiOf P) t ps = some cs) (hl : us.toList.length = ps.length)
    (hr : ∀ (j : Nat) i x i' u, ps[j]? = some (i, x) → us.toList[j]? = some (i', u) → i' = i ∧ ERel M ρ β hp x u) :
    ∃ c, (Instr.build t us).run P w = .ok (.agg c) w ∧ VRel M ρ hp (.agg cs) (.agg c) := by
  have names : ∀ (place : Nat → Option (Nat × Nat)) zs, filled place ps zs = some cs → ∀ x ∈ us.toList, (place x.1).isSome = true := by
    intro place zs hf x hx
    obtain ⟨j, hj⟩ := List.mem_iff_getElem?.1 hx
    have hlt : j < ps.length := by have := (List.getElem?_eq_some_iff.1 hj).1; omega
    obtain ⟨e1, _⟩ := hr j ps[j].1 ps[j].2 x.1 x.2 (by simp [hlt]) hj
    rw [e1]
    exact filled_names ps _ _ hf ps[j] (List.getElem_mem hlt)
  unfold buildA at h
  split at h
  · rename_i ti ht
    obtain ⟨i, z, d, hi, hz, hzc, hzl, htd, hsz, hby, hd, _⟩ := tiOf_some ht
    obtain ⟨z1, z2, z3⟩ := zero_rel (M := M) (ρ := ρ) (hp := hp) hzc hzl
    obtain ⟨_, _, _, _, hty1, hty2⟩ := tyOf_eq (P := P) (t := t)
    rw [htd] at h
    split at h
    · rename_i fs hfs
      obtain ⟨gs, hgs, rfl⟩ := hty2 fs hfs
      simp only [Option.bind_eq_some_iff] at h
      obtain ⟨pl, hpl, h⟩ := h
      have hf := fillA_filled h
      obtain ⟨c', g1, g2, g3, g4, g5⟩ := fill_rel (β := β) _ ps us.toList ti.zero cs z.cells hf hl hr (by rw [z1, hzl]) z2 z3
      refine ⟨c', ?_, .agg g2 g4 g5⟩
      have hm : (gs.mapM fun f => (do pure (f.offset, ← Go.sizeOf f.type) : Sem (Nat × Nat))).run P w = .ok pl.toArray w := by
        rw [Array.mapM_eq_mapM_toList]
        simp only [Sem.run_map, placesT_get gs.toList pl hpl, Result.andThen_ok]
      simp only [Instr.build, Sem.run_bind, run_zeroValue' hi hz, Result.andThen_ok, run_underlying hgs]
      rw [hm]
      simp only [Result.andThen_ok]
      rw [fill_congr (place' := fun i => pl[i]?) us.toList _ (fun x _ => by simp), g1]
      rfl
    · rename_i n e hne
      have hu := hty1 n e hne
      simp only [Option.bind_eq_some_iff] at h
      obtain ⟨s, hs, h⟩ := h
      unfold sizeT at hs
      simp only [Option.map_eq_some_iff] at hs
      obtain ⟨te, hte, rfl⟩ := hs
      obtain ⟨ie, _, _, hie, _, _, _, _, hse, _, _, _⟩ := tiOf_some hte
      split at h
      · have hf := fillA_filled h
        obtain ⟨c', g1, g2, g3, g4, g5⟩ := fill_rel (β := β) _ ps us.toList ti.zero cs z.cells hf hl hr (by rw [z1, hzl]) z2 z3
        refine ⟨c', ?_, .agg g2 g4 g5⟩
        simp only [Instr.build, Sem.run_bind, run_zeroValue' hi hz, Result.andThen_ok, run_underlying hu, run_sizeOf' hie]
        rw [fill_congr (place' := fun i => (evenly n te.size)[i]?) us.toList _ (fun x hx => by
          have := names _ _ hf x hx
          simp only [evenly_get] at this ⊢
          split at this
          · rename_i hlt; rw [if_pos hlt, hse]
          · cases this), g1]
        rfl
      · cases h
    · cases h
  · cases h

/-! ### rows -/
theorem packed_rows : ∀ (pl : List (Nat × Nat)) (ps : List (Nat × AV)) (i at_ : Nat) (l : List (List AV)), packed pl ps i at_ = some l → l.length = pl.length ∧ ∀ (j : Nat) row, l[j]? = some row → ∃ off, pl[j]? = some (off, row.length)
  | [], [], i, at_, l, h => by simp [packed] at h; subst h; exact ⟨rfl, fun j row hj => by simp at hj⟩
  | (off, s) :: pl, (j, v) :: ps, i, at_, l, h => by
    simp only [packed] at h
    split at h
    · rename_i hc
      simp only [Option.map_eq_some_iff] at h
      obtain ⟨l', hl', rfl⟩ := h
      obtain ⟨h1, h2⟩ := packed_rows pl ps (i + 1) (at_ + s) l' hl'
      refine ⟨by simp [h1], fun j row hj => ?_⟩
      cases j with
      | zero => simp at hj; subst hj; exact ⟨off, by simp [hc.2.2.2]⟩
      | succ j => exact h2 j row (by simpa using hj)
    · cases h
  | [], _ :: _, _, _, _, h => by simp [packed] at h
  | _ :: _, [], _, _, _, h => by simp [packed] at h

theorem flat_get {sz : Nat} : ∀ (rows : List (List AV)), (∀ row ∈ rows, row.length = sz) → ∀ (i j : Nat) (row : List AV), rows[i]? = some row → j < sz → rows.flatten[i * sz + j]? = row[j]?
  | [], _, i, j, row, h, _ => by simp at h
  | r :: rows, hl, 0, j, row, h, hj => by
    simp at h
    subst h
    have := hl r (by simp)
    rw [List.flatten_cons, Nat.zero_mul, Nat.zero_add, List.getElem?_append_left (by omega)]
  | r :: rows, hl, i + 1, j, row, h, hj => by
    have := hl r (by simp)
    rw [List.flatten_cons, List.getElem?_append_right (by rw [Nat.succ_mul]; omega), show (i + 1) * sz + j - r.length = i * sz + j by rw [Nat.succ_mul]; omega]
    exact flat_get rows (fun x hx => hl x (by simp [hx])) i j row (by simpa using h) hj

theorem flat_len {sz : Nat} : ∀ (rows : List (List AV)), (∀ row ∈ rows, row.length = sz) → rows.flatten.length = rows.length * sz
  | [], _ => by simp
  | r :: rows, hl => by
    rw [List.flatten_cons, List.length_append, hl r (by simp), flat_len rows (fun x hx => hl x (by simp [hx])), List.length_cons, Nat.succ_mul]
    omega

/-- cells that hold rows, one behind the other -/
theorem RowsIn.of_flat {sz : Nat} {rows : List (List AV)} {c : Array Value} (hl : ∀ row ∈ rows, row.length = sz) (h : CellsIn M ρ hp rows.flatten c) : RowsIn M ρ hp sz rows c := fun i row j x u hi hx hu => by
  have hj : j < sz := by have := (List.getElem?_eq_some_iff.1 hx).1; rw [hl row (List.mem_of_getElem? hi)] at this; exact this
  exact h _ x u (by rw [flat_get rows hl i j row hi hj]; exact hx) hu

theorem buildSlice_rel {t len e : Nat} {te : TI} {ps : List (Nat × AV)} {us : Array (Nat × Value)} {rows : List (List AV)} (he : elemT (tiOf P) t = some (e, te)) (h : packed (evenly len te.size) ps 0 0 = some rows)
    (hb : len ≤ 1024 ∧ te.size ≤ 1024) (hl : us.toList.length = ps.length) (hr : ∀ (j : Nat) i x i' u, ps[j]? = some (i, x) → us.toList[j]? = some (i', u) → i' = i ∧ ERel M ρ β hp x u) :
    ∃ c, (Instr.buildSlice t len us).run P w = .ok (.slice (some ⟨w.heap.size, 0, none⟩) len len) (w.alloc (.cells c e)) ∧ c.size = len * te.size ∧ rows.length = len ∧ (∀ row ∈ rows, row.length = te.size) ∧ One c ∧ RowsIn M ρ hp te.size rows c := by
  obtain ⟨p1, p2⟩ := packed_rows _ _ _ _ _ h
  have hlen : rows.length = len := by rw [p1]; simp [evenly]
  have hrl : ∀ row ∈ rows, row.length = te.size := by
    intro row hrow
    obtain ⟨j, hj⟩ := List.mem_iff_getElem?.1 hrow
    obtain ⟨off, ho⟩ := p2 j row hj
    rw [evenly_get] at ho
    split at ho
    · exact (Prod.mk.inj (Option.some.inj ho)).2.symm
    · cases ho
  have hfl := flat_len rows hrl
  unfold elemT at he
  split at he
  · rename_i ti ht
    split at he
    · rename_i e' he'
      simp only [Option.map_eq_some_iff] at he
      obtain ⟨te', hte, heq⟩ := he
      cases heq
      obtain ⟨i, z, d, hi, hz, hzc, hzl, htd, hsz, hby, hd, _⟩ := tiOf_some ht
      obtain ⟨ie, ze, de, hie, hze, hzec, hzel, _, hse, _, _, _⟩ := tiOf_some hte
      obtain ⟨_, _, _, hsl, _, _⟩ := tyOf_eq (P := P) (t := t)
      rw [htd] at he'
      have hu := hsl _ he'
      have hf := packed_filled (fun i => (evenly len te.size)[i]?) _ ps 0 0 rows (List.replicate (len * te.size) .undef) h (fun j => by simp) (by simp [hfl, hlen])
      simp only [List.take_zero, List.nil_append] at hf
      -- the cells before the parts are laid
      have hone0 : One ((Array.range (len * ie.size)).map ((if len * ie.size = 0 then #[] else ze.cells)[· % (if len * ie.size = 0 then #[] else ze.cells).size]!)) := by
        obtain ⟨z1, z2, _⟩ := zero_rel (M := M) (ρ := ρ) (hp := hp) hzec hzel
        intro j u hj
        rw [Array.getElem?_map] at hj
        cases hrg : (Array.range (len * ie.size))[j]? with
        | none => rw [hrg] at hj; cases hj
        | some k =>
          rw [hrg] at hj
          simp only [Option.map_some, Option.some.injEq] at hj
          have hk : k < len * ie.size := by
            rw [Array.getElem?_eq_some_iff] at hrg
            obtain ⟨hlt, hkk⟩ := hrg
            simp at hlt hkk
            omega
          have hne : len * ie.size ≠ 0 := by omega
          simp only [if_neg hne] at hj
          have hpos : 0 < ze.cells.size := by
            rw [z1]
            rcases Nat.eq_zero_or_pos ie.size with h0 | h0
            · rw [h0] at hne; simp at hne
            · exact h0
          have hm : k % ze.cells.size < ze.cells.size := Nat.mod_lt k hpos
          rw [getElem!_pos ze.cells (k % ze.cells.size) hm] at hj
          exact z2 (k % ze.cells.size) u (by rw [Array.getElem?_eq_getElem hm, hj])
      obtain ⟨c', g1, g2, g3, g4, g5⟩ := fill_rel (M := M) (ρ := ρ) (hp := hp) (β := β) _ ps us.toList _ _ ((Array.range (len * ie.size)).map ((if len * ie.size = 0 then #[] else ze.cells)[· % (if len * ie.size = 0 then #[] else ze.cells).size]!)) hf hl hr (by simp [hse]) hone0
        (fun j x u hx _ => by
          rw [List.getElem?_replicate] at hx
          split at hx
          · cases hx; exact .undef _
          · cases hx)
      refine ⟨c', ?_, by rw [g2, hfl, hlen], hlen, hrl, g4, .of_flat hrl g5⟩
      have hsmall : ¬ (len * ie.size > 2 ^ 24) := by
        have := Nat.mul_le_mul hb.1 hb.2
        rw [hse] at this
        omega
      have hfc : Instr.fill (fun i => some (i * ie.size, ie.size)) ((Array.range (len * ie.size)).map ((if len * ie.size = 0 then #[] else ze.cells)[· % (if len * ie.size = 0 then #[] else ze.cells).size]!)) us.toList = some c' := by
        rw [fill_congr (place' := fun i => (evenly len te.size)[i]?) us.toList _ (fun x hx => ?_), g1]
        obtain ⟨j, hj⟩ := List.mem_iff_getElem?.1 hx
        have hlt : j < ps.length := by have := (List.getElem?_eq_some_iff.1 hj).1; omega
        obtain ⟨e1, _⟩ := hr j ps[j].1 ps[j].2 x.1 x.2 (by simp [hlt]) hj
        have hnm := filled_names ps _ _ hf ps[j] (List.getElem_mem hlt)
        rw [e1]
        simp only [evenly_get] at hnm ⊢
        split at hnm
        · rename_i hlt'; rw [if_pos hlt', hse]
        · cases hnm
      by_cases h0 : len * ie.size = 0
      · simp only [if_pos h0] at hfc
        simp only [Instr.buildSlice, Sem.run_bind, run_underlying hu, Result.andThen_ok, run_sizeOf' hie, if_neg hsmall]
        rw [if_pos h0]
        simp only [Sem.run_bind, Sem.run_pure, Result.andThen_ok]
        rw [hfc]
        rfl
      · simp only [if_neg h0] at hfc
        simp only [Instr.buildSlice, Sem.run_bind, run_underlying hu, Result.andThen_ok, run_sizeOf' hie, if_neg hsmall, if_neg h0, run_zeroValue' hie hze, Sem.run_pure]
        rw [hfc]
        rfl
    · cases he
  · cases he

end
end Go.Proofs.Ythbmlioknnhleaa.Abs

/- The abstract machine: made slices, append, clear. -/
namespace Go.Proofs.Ythbmlioknnhleaa.Abs
open Go

section
variable {P : Program} {M : Mem} {ρ : Rho} {β : Nat → Option Nat} {hp : List Blk} {lo : List (Nat × List AV)} {w : World}

/-- a slice type and its element's -/
theorem elemT_some {t e : Nat} {te : TI} (he : elemT (tiOf P) t = some (e, te)) : P.underlying t = some (.slice e) ∧ tiOf P e = some te := by
  unfold elemT at he
  split at he
  · rename_i ti ht
    obtain ⟨i, z, d, hi, hz, hzc, hzl, htd, hsz, hby, hd, _⟩ := tiOf_some ht
    obtain ⟨_, _, _, hsl, _, _⟩ := tyOf_eq (P := P) (t := t)
    split at he
    · rename_i e' he'
      simp only [Option.map_eq_some_iff] at he
      obtain ⟨te', hte, heq⟩ := he
      cases heq
      rw [htd] at he'
      exact ⟨hsl _ he', hte⟩
    · cases he
  · cases he

theorem arrT_some {t n : Nat} {te : TI} (he : arrT (tiOf P) t = some (n, te)) : ∃ e, P.underlying t = some (.array n e) ∧ tiOf P e = some te := by
  unfold arrT at he
  split at he
  · rename_i ti ht
    obtain ⟨i, z, d, hi, hz, hzc, hzl, htd, hsz, hby, hd, _⟩ := tiOf_some ht
    obtain ⟨_, _, _, _, har, _⟩ := tyOf_eq (P := P) (t := t)
    split at he
    · rename_i n' e' he'
      simp only [Option.map_eq_some_iff] at he
      obtain ⟨te', hte, heq⟩ := he
      cases heq
      rw [htd] at he'
      exact ⟨e', har _ _ he', hte⟩
    · cases he
  · cases he

theorem fieldT_some {t f off : Nat} {tf : TI} (he : fieldT (tiOf P) t f = some (off, tf)) : ∃ gs g, P.underlying t = some (.struct gs) ∧ gs[f]? = some g ∧ g.offset = off ∧ tiOf P g.type = some tf := by
  unfold fieldT at he
  split at he
  · rename_i ti ht
    obtain ⟨i, z, d, hi, hz, hzc, hzl, htd, hsz, hby, hd, _⟩ := tiOf_some ht
    obtain ⟨_, _, _, _, _, hst⟩ := tyOf_eq (P := P) (t := t)
    split at he
    · rename_i fs hfs
      rw [htd] at hfs
      obtain ⟨gs, hgs, rfl⟩ := hst _ hfs
      split at he
      · rename_i off' ft hf
        simp only [Option.map_eq_some_iff] at he
        obtain ⟨tf', htf, heq⟩ := he
        cases heq
        simp only [List.getElem?_map, Option.map_eq_some_iff] at hf
        obtain ⟨g, hg, hge⟩ := hf
        cases hge
        exact ⟨gs, g, hgs, by simpa using hg, rfl, htf⟩
      · cases he
    · cases he
  · cases he

theorem One.made {z : Array Value} (h : One z) (n : Nat) (hz : n ≠ 0 → 0 < z.size) : One (madeCells z n) := by
  intro j u hj
  unfold madeCells at hj
  rw [Array.getElem?_map] at hj
  cases hrg : (Array.range n)[j]? with
  | none => rw [hrg] at hj; cases hj
  | some k =>
    rw [hrg] at hj
    simp only [Option.map_some, Option.some.injEq] at hj
    have hne : n ≠ 0 := by
      rintro rfl
      simp at hrg
    have hm : k % z.size < z.size := Nat.mod_lt k (hz hne)
    rw [getElem!_pos z (k % z.size) hm] at hj
    exact h (k % z.size) u (by rw [Array.getElem?_eq_getElem hm, hj])

theorem made_get {z : Array Value} {sz : Nat} (hz : z.size = sz) (n i j : Nat) (hi : i < n) (hj : j < sz) : (madeCells z (n * sz))[i * sz + j]? = z[j]? := by
  have hlt : i * sz + j < n * sz := by
    have := Nat.mul_le_mul_right sz (show i + 1 ≤ n by omega)
    rw [Nat.succ_mul] at this
    omega
  unfold madeCells
  rw [Array.getElem?_map]
  have hr : (Array.range (n * sz))[i * sz + j]? = some (i * sz + j) := by simp [hlt]
  rw [hr]
  simp only [Option.map_some]
  have hmod : (i * sz + j) % z.size = j := by rw [hz, Nat.mul_comm, Nat.mul_add_mod, Nat.mod_eq_of_lt hj]
  rw [hmod, getElem!_pos z j (by omega), Array.getElem?_eq_getElem (by omega)]

theorem makeSlice_rel {t e : Nat} {te : TI} (he : elemT (tiOf P) t = some (e, te)) {n : Int} (hpos : 0 < te.size) (hb : te.bytes ≤ 1024) (h0 : 0 ≤ n) (hn : n ≤ (most : Nat)) :
    ∃ c, (Instr.makeSlice t (.int .i64 n) (.int .i64 n)).run P w = .ok (.slice (some ⟨w.heap.size, 0, none⟩) n.toNat n.toNat) (w.alloc (.cells c e)) ∧ c.size = n.toNat * te.size ∧ One c ∧
      (∀ row ∈ List.replicate n.toNat te.zero, row.length = te.size) ∧ RowsIn M ρ hp te.size (List.replicate n.toNat te.zero) c := by
  obtain ⟨hu, hte⟩ := elemT_some he
  obtain ⟨ie, ze, de, hie, hze, hzec, hzel, _, hse, hbe, _, _⟩ := tiOf_some hte
  obtain ⟨z1, z2, z3⟩ := zero_rel (M := M) (ρ := ρ) (hp := hp) hzec hzel
  unfold most at hn
  have hbytes : (ie.bytes : Int) * n ≤ 281474976710656 := by
    have h1 : (ie.bytes : Int) ≤ 1024 := by omega
    have := Int.mul_le_mul h1 hn h0 (by omega)
    omega
  have hrun := run_make (P := P) w t e ie ze hu hie hze .i64 .i64 n n h0 (Int.le_refl _) hbytes (by omega)
  refine ⟨_, hrun, by rw [size_madeCells, hse], One.made z2 _ (fun _ => by omega), fun row hrow => ?_, fun i row j x u hi hx hu => ?_⟩
  · rw [(List.mem_replicate.1 hrow).2]; omega
  · rw [List.getElem?_replicate] at hi
    split at hi
    · rename_i hlt
      cases hi
      have hj : j < ie.size := by have := (List.getElem?_eq_some_iff.1 hx).1; omega
      rw [hse, made_get (z1.trans rfl) n.toNat i j hlt hj] at hu
      exact z3 j x u hx hu
    · cases hi

/-- what is appended -/
structure News (M : Mem) (ρ : Rho) (hp : List Blk) (size : Nat) (new : List (List AV)) (news : List Value) : Prop where
  len : news.length = new.length * size
  rows : ∀ row ∈ new, row.length = size
  one : ∀ u ∈ news, u.oneCell' = true
  rel : ∀ (i : Nat) row (j : Nat) x u, new[i]? = some row → row[j]? = some x → news[i * size + j]? = some u → VRel M ρ hp x u

theorem News.nil (size : Nat) : News M ρ hp size [] [] := ⟨by simp, (fun _ hh => by cases hh), (fun _ hh => by cases hh), fun i row j x u hi => by simp at hi⟩

theorem src_core {ty2 size : Nat} {x : AV} {u : Value} {new : List (List AV)} (hR : Real M ρ β hp lo w.heap) (hk : isSrc (tiOf P) ty2 = true) (hx : ERel M ρ β hp x u) (hvi : ∀ k sz n q, x ≠ .vi k sz n q) (h : rowsA hp size x = some new) :
    ∃ news, Src P size ty2 u new.length news w ∧ News M ρ hp size new news := by
  have hkind : (∃ e', P.underlying ty2 = some (.slice e')) ∨ P.underlying ty2 = some .string := by
    unfold isSrc at hk
    split at hk
    · rename_i ti ht
      obtain ⟨i, z, d, hi, hz, hzc, hzl, htd, hsz, hby, hd, _⟩ := tiOf_some ht
      obtain ⟨_, hs, _, hsl, _, _⟩ := tyOf_eq (P := P) (t := ty2)
      rw [htd] at hk
      split at hk
      · rename_i e he; exact .inl ⟨e, hsl _ he⟩
      · rename_i he; exact .inr (hs he)
      · cases hk
    · cases hk
  have slice : ∀ (g off n cap : Nat) (news : List Value), news.length = n * size → (∀ j v, news[j]? = some v → w.cell? ⟨g, off + j, none⟩ = some v) → (∀ v ∈ news, v.oneCell' = true) →
      Src P size ty2 (.slice (some ⟨g, off, none⟩) n cap) n news w := fun g off n cap news h1 h2 h3 =>
    ⟨hkind, fun _ => rfl, run_firstCells_some w size n ⟨g, off, none⟩ n cap news h1 (fun j v hv => by rw [Addr.add_mid]; exact h2 j v hv), run_firstCells_some w.drew size n ⟨g, off, none⟩ n cap news h1 (fun j v hv => by rw [Addr.add_mid]; exact h2 j v hv), h1, h3⟩
  unfold rowsA at h
  split at h
  · cases h
    cases hx.v (fun _ _ e => by cases e)
    exact ⟨[], ⟨hkind, fun _ => rfl, by simp [Builtin.firstCells], by simp [Builtin.firstCells], by simp, fun _ hh => by cases hh⟩, News.nil _⟩
  · cases h
    cases hx.v (fun _ _ e => by cases e) with
    | esl a => exact ⟨[], ⟨hkind, fun _ => rfl, by cases a <;> simp [Builtin.firstCells, loadCells, loadCellsFrom], by cases a <;> simp [Builtin.firstCells, loadCells, loadCellsFrom], by simp, fun _ hh => by cases hh⟩, News.nil _⟩
  · rename_i sz rows
    split at h
    · rename_i hsz
      cases h
      subst hsz
      cases hx.v (fun _ _ e => by cases e) with
      | vs0 _ a cap => exact ⟨[], ⟨hkind, fun _ => rfl, by cases a <;> simp [Builtin.firstCells, loadCells, loadCellsFrom], by cases a <;> simp [Builtin.firstCells, loadCells, loadCellsFrom], by simp, fun _ hh => by cases hh⟩, News.nil _⟩
      | @vs _ _ g off cap c e f hM hone hn hlen hin h =>
        have hH := hR.mem _ _ hM
        have hget : ∀ j, j < new.length * sz → (c.extract off (off + new.length * sz)).toList[j]? = c[off + j]? := fun j hj => by
          rw [Array.getElem?_toList, Array.getElem?_extract, if_pos (by omega)]
        refine ⟨(c.extract off (off + new.length * sz)).toList, slice g off new.length cap _ (by simp; omega) (fun j v hv => ?_) (fun v hv => ?_), ⟨by simp; omega, hlen, fun v hv => ?_, fun i row j x u hi hx' hu => ?_⟩⟩
        · have hj : j < new.length * sz := by have := (List.getElem?_eq_some_iff.1 hv).1; simp at this; omega
          rw [cell_at hH, ← hget j hj]; exact hv
        · obtain ⟨j, hj⟩ := List.mem_iff_getElem?.1 hv
          rw [Array.getElem?_toList, Array.getElem?_extract] at hj
          split at hj
          · exact hone _ _ hj
          · cases hj
        · obtain ⟨j, hj⟩ := List.mem_iff_getElem?.1 hv
          rw [Array.getElem?_toList, Array.getElem?_extract] at hj
          split at hj
          · exact hone _ _ hj
          · cases hj
        · have hj : i * sz + j < new.length * sz := by have := (List.getElem?_eq_some_iff.1 hu).1; simp at this; omega
          rw [hget _ hj, ← Nat.add_assoc] at hu
          exact h i row j x u hi hx' hu
    · cases h
  · rename_i sz n f
    split at h
    · rename_i hsz
      cases h
      subst hsz
      have hl : ((List.range n).map f).length = n := by simp
      rw [hl]
      have hat : ∀ (i : Nat) row, ((List.range n).map f)[i]? = some row → i < n ∧ row = f i := fun i row hi => by
        rw [List.getElem?_map] at hi
        by_cases hin : i < n
        · rw [List.getElem?_range hin] at hi
          exact ⟨hin, (Option.some.inj hi).symm⟩
        · rw [List.getElem?_eq_none (by simp; omega)] at hi
          cases hi
      cases hx.v (fun _ _ e => by cases e) with
      | vf0 _ _ a cap => exact ⟨[], ⟨hkind, fun _ => rfl, by cases a <;> simp [Builtin.firstCells, loadCells, loadCellsFrom], by cases a <;> simp [Builtin.firstCells, loadCells, loadCellsFrom], by simp, fun _ hh => by cases hh⟩, News.nil _⟩
      | @vf _ _ _ g off cap c e fl hM hn hlen hin h =>
        have hH := hR.mem _ _ hM
        have hget : ∀ j, j < n * sz → (c.extract off (off + n * sz)).toList[j]? = c[off + j]? := fun j hj => by
          rw [Array.getElem?_toList, Array.getElem?_extract, if_pos (by omega)]
        have hones : ∀ v ∈ (c.extract off (off + n * sz)).toList, v.oneCell' = true := fun v hv => by
          obtain ⟨j, hj⟩ := List.mem_iff_getElem?.1 hv
          have hjl : j < n * sz := by have := (List.getElem?_eq_some_iff.1 hj).1; simp at this; omega
          rw [hget j hjl] at hj
          have hsz0 : 0 < sz := by
            apply Nat.pos_of_ne_zero
            rintro rfl
            simp at hjl
          have hdiv : j / sz < n := (Nat.div_lt_iff_lt_mul hsz0).2 hjl
          have hmod : j % sz < (f (j / sz)).length := by rw [hlen _ hdiv]; exact Nat.mod_lt _ hsz0
          refine (h (j / sz) (j % sz) _ v hdiv (List.getElem?_eq_getElem hmod) ?_).one
          rw [Nat.add_assoc, Nat.mul_comm, Nat.div_add_mod]
          exact hj
        refine ⟨(c.extract off (off + n * sz)).toList, slice g off n cap _ (by simp; omega) (fun j v hv => ?_) hones, ⟨by rw [hl]; simp; omega, fun row hrow => ?_, hones, fun i row j x u hi hx' hu => ?_⟩⟩
        · have hj : j < n * sz := by have := (List.getElem?_eq_some_iff.1 hv).1; simp at this; omega
          rw [cell_at hH, ← hget j hj]; exact hv
        · obtain ⟨i, hi⟩ := List.mem_iff_getElem?.1 hrow
          obtain ⟨hin', rfl⟩ := hat i row hi
          exact hlen i hin'
        · obtain ⟨hin', rfl⟩ := hat i row hi
          have hj : i * sz + j < n * sz := by have := (List.getElem?_eq_some_iff.1 hu).1; simp at this; omega
          rw [hget _ hj, ← Nat.add_assoc] at hu
          exact (h i j x u hin' hx' hu).v
    · cases h
  · exact absurd rfl (hvi _ _ _ _)
  · rename_i k r n t
    simp only [Option.bind_eq_some_iff] at h
    obtain ⟨b, hb, h⟩ := h
    obtain ⟨hb1, hb2⟩ := fresh_some hb
    split at h
    · rename_i hc
      obtain ⟨hsz, hrn⟩ := hc
      cases h
      subst hsz
      cases hx.v (fun _ _ e => by cases e) with
      | @sl _ _ _ _ _ b' l hb' hl _ _ h =>
        rw [hb1] at hb'
        cases hb'
        obtain ⟨off, cap, rfl, hnc, hoff, _⟩ := h hb2
        obtain ⟨l', c, hl', hat⟩ := hR.blk k b hb1
        rw [hl] at hl'
        cases hl'
        have hlen : ((b.rows.drop r).take n).length = n := by simp; omega
        rw [hlen]
        have hroom : (r + n) * b.sz ≤ b.rows.length * b.sz := Nat.mul_le_mul_right _ hrn
        rw [Nat.add_mul] at hroom
        have hcs := hat.size
        have hrm := hat.room
        have hget : ∀ j, j < n * b.sz → (c.extract (r * b.sz) (r * b.sz + n * b.sz)).toList[j]? = c[r * b.sz + j]? := fun j hj => by
          rw [Array.getElem?_toList, Array.getElem?_extract, if_pos (by omega)]
        have hones : ∀ v ∈ (c.extract (r * b.sz) (r * b.sz + n * b.sz)).toList, v.oneCell' = true := fun v hv => by
          obtain ⟨j, hj⟩ := List.mem_iff_getElem?.1 hv
          rw [Array.getElem?_toList, Array.getElem?_extract] at hj
          split at hj
          · exact hat.one _ _ hj
          · cases hj
        refine ⟨(c.extract (r * b.sz) (r * b.sz + n * b.sz)).toList, slice l.blk off n cap _ (by simp; omega) (fun j v hv => ?_) hones, ⟨by rw [hlen]; simp; omega, fun row hrow => hat.len row (List.mem_of_mem_drop (List.mem_of_mem_take hrow)), hones, fun i row j x u hi hx' hu => ?_⟩⟩
        · have hj : j < n * b.sz := by have := (List.getElem?_eq_some_iff.1 hv).1; simp at this; omega
          have hn0 : 0 < n := by
            rcases Nat.eq_zero_or_pos n with h0 | h0
            · rw [h0] at hj; simp at hj
            · exact h0
          rw [cell_at hat.at_, hoff (.inl hn0), ← hget j hj]; exact hv
        · rw [List.getElem?_take] at hi
          split at hi
          · rename_i hin
            rw [List.getElem?_drop] at hi
            have hj : i * b.sz + j < n * b.sz := by have := (List.getElem?_eq_some_iff.1 hu).1; simp at this; omega
            rw [hget _ hj, ← Nat.add_assoc, ← Nat.add_mul] at hu
            exact hat.rows (r + i) row j x u hi hx' hu
          · cases hi
    · cases h
  · rename_i s
    split at h
    · rename_i hsz
      cases h
      subst hsz
      rw [hx.str_inv]
      have hl : (s.data.toList.map fun b => [AV.int .u8 b.toNat]).length = s.size := by rw [List.length_map, Array.length_toList]; rfl
      rw [hl]
      refine ⟨byteCells s, ⟨hkind, fun _ => rfl, firstCells_string s w, firstCells_string s w.drew, by rw [byteCells_length, Nat.mul_one], fun u hu => ?_⟩, ⟨by rw [hl, byteCells_length, Nat.mul_one], fun row hrow => ?_, fun u hu => ?_, fun i row j x u hi hx' hu => ?_⟩⟩
      · obtain ⟨_, _, rfl⟩ := List.mem_map.1 hu; rfl
      · obtain ⟨_, _, rfl⟩ := List.mem_map.1 hrow; rfl
      · obtain ⟨_, _, rfl⟩ := List.mem_map.1 hu; rfl
      · rw [List.getElem?_map] at hi
        cases hb : s.data.toList[i]? with
        | none => rw [hb] at hi; cases hi
        | some b =>
          rw [hb] at hi
          simp only [Option.map_some, Option.some.injEq] at hi
          subst hi
          cases j with
          | zero =>
            simp at hx'
            subst hx'
            unfold byteCells at hu
            rw [Nat.mul_one, Nat.add_zero, List.getElem?_map, hb] at hu
            cases hu
            exact .int _ _
          | succ j => simp at hx'
    · cases h
  · cases h

theorem src_rel {ty2 size : Nat} {x : AV} {u : Value} {new : List (List AV)} (hR : Real M ρ β hp lo w.heap) (hk : isSrc (tiOf P) ty2 = true) (hx : ERel M ρ β hp x u) (h : rowsA hp size x = some new) :
    ∃ news, Src P size ty2 u new.length news w ∧ News M ρ hp size new news := by
  cases x with
  | vi k sz n q =>
    cases hx.v (fun _ _ e => by cases e) with
    | vi h' _ => exact src_core hR hk (.inr h') (fun _ _ _ _ e => by cases e) h
  | _ => exact src_core hR hk hx (fun _ _ _ _ e => by cases e) h

theorem News.zeros {size n : Nat} {zero : List AV} {z : Array Value} (hl : zero.length = size) (h1 : z.size = size) (h2 : One z) (h3 : CellsIn M ρ hp zero z) (hpos : 0 < size) :
    News M ρ hp size (List.replicate n zero) (Builtin.zeroCells z n).toList := by
  have hzm : Builtin.zeroCells z n = madeCells z (n * size) := by unfold Builtin.zeroCells madeCells; rw [h1]
  rw [hzm]
  refine ⟨by simp [size_madeCells], fun row hrow => by rw [(List.mem_replicate.1 hrow).2]; exact hl, fun u hu => ?_, fun i row j x u hi hx hu => ?_⟩
  · obtain ⟨j, hj⟩ := List.mem_iff_getElem?.1 hu
    exact One.made h2 _ (fun _ => by omega) j u (by simpa using hj)
  · rw [List.getElem?_replicate] at hi
    split at hi
    · rename_i hlt
      cases hi
      have hj : j < size := by have := (List.getElem?_eq_some_iff.1 hx).1; omega
      rw [Array.getElem?_toList, made_get h1 n i j hlt hj] at hu
      exact h3 j x u hx hu
    · cases hi

end
end Go.Proofs.Ythbmlioknnhleaa.Abs

/- The abstract machine: append and clear. -/
namespace Go.Proofs.Ythbmlioknnhleaa.Abs
open Go

/-- how the built-in append runs where 'news', m elements, are appended -/
structure App (P : Program) (w : World) (t tx ty e size : Nat) (z : Array Value) (u : Value) (m : Nat) (news : List Value) : Prop where
  nothing : m = 0 → ∀ (base : Option Addr) (c : Nat), (Builtin.append_ #[t, tx] ty #[.slice base 0 c, u]).run P w = .ok (.slice base 0 c) w
  room : ∀ (b off sLen sCap : Nat), sLen + m ≤ sCap → (∀ j, j < news.length → (w.cell? ⟨b, off + sLen * size + j, none⟩).isSome = true) → (∀ j, j < news.length → w.frozen? ⟨b, off + sLen * size + j, none⟩ = false) →
    (Builtin.append_ #[t, tx] ty #[.slice (some ⟨b, off, none⟩) sLen sCap, u]).run P w = .ok (.slice (some ⟨b, off, none⟩) (sLen + m) sCap) (w.setCells b (off + sLen * size) news)
  grow : ∀ (base : Option Addr) (sLen sCap : Nat) (olds : List Value), (Builtin.firstCells size sLen (.slice base sLen sCap)).run P w.drew = .ok olds.toArray w.drew → sCap < sLen + m → sLen + m ≤ most →
    (Builtin.append_ #[t, tx] ty #[.slice base sLen sCap, u]).run P w = .ok (.slice (some ⟨w.heap.size, 0, none⟩) (sLen + m) (grownCap w (sLen + m) sCap e))
      (w.drew.alloc (.cells ((olds ++ news).toArray ++ Builtin.zeroCells z (grownCap w (sLen + m) sCap e - (sLen + m))) e))

section
variable {P : Program} {M : Mem} {ρ : Rho} {β : Nat → Option Nat} {hp : List Blk} {lo : List (Nat × List AV)} {w : World}

theorem fits {need bytes : Nat} (h : need ≤ most) (hb : bytes ≤ 1024) : need * bytes ≤ 140737488355328 := by
  unfold most at h
  have := Nat.mul_le_mul h hb
  omega

theorem App.ofSrc {t tx ty e : Nat} {i : TypeInfo} {z : Value} (ht : P.underlying t = some (.slice e)) (hi : P.info? e = some i) (hz : i.zero = some z) (hb : i.bytes ≤ 1024) {u : Value} {m : Nat} {news : List Value} (hs : Src P i.size tx u m news w) :
    App P w t tx ty e i.size z.cells u m news :=
  ⟨fun hm base c => by
    subst hm
    obtain rfl : news = [] := List.eq_nil_of_length_eq_zero (by simpa using hs.newsLen)
    exact run_append_nothing w t tx ty e i ht hi base 0 c (Nat.zero_le _) u hs,
   fun b off sLen sCap h1 h2 h3 => run_append_room_src w t tx ty e i ht hi b off sLen sCap u m news hs h1 h2 h3,
   fun base sLen sCap olds h1 h2 h3 => run_append_grow_src w t tx ty e i z ht hi hz base sLen sCap olds h1 u m news hs h2 (by unfold most at h3; omega) (growslice_fits h2 (fits h3 hb))⟩

theorem App.ofZeros {t tx ty e : Nat} {k : IntKind} {i : TypeInfo} {z : Value} (ht : P.underlying t = some (.slice e)) (hk : P.underlying tx = some (.int k)) (hi : P.info? e = some i) (hz : i.zero = some z) (hb : i.bytes ≤ 1024)
    (hpos : 0 < i.size) (hzs : z.cells.size = i.size) (hone : One z.cells) {n : Int} (h0 : 0 ≤ n) (hn : n ≤ (most : Nat)) :
    App P w t tx ty e i.size z.cells (.int .i64 n) n.toNat (Builtin.zeroCells z.cells n.toNat).toList := by
  have hw : IntKind.i64.wrap n = n := by unfold most at hn; rw [IntKind.wrap_i64]; omega
  have n1 : ¬ n < 0 := by omega
  have n2 : ¬ (281474976710656 < n * (i.bytes : Int)) := by
    unfold most at hn
    have := Int.mul_le_mul hn (show (i.bytes : Int) ≤ 1024 by omega) (by omega) (by omega)
    omega
  have hm : n.toNat * i.size = 0 ↔ n.toNat = 0 := by
    constructor
    · intro h
      rcases Nat.mul_eq_zero.1 h with h | h
      · exact h
      · omega
    · intro h; rw [h]; simp
  have hones : ∀ v ∈ (Builtin.zeroCells z.cells n.toNat).toList, v.oneCell' = true := by
    have hzm : Builtin.zeroCells z.cells n.toNat = madeCells z.cells (n.toNat * i.size) := by unfold Builtin.zeroCells madeCells; rw [hzs]
    intro v hv
    obtain ⟨j, hj⟩ := List.mem_iff_getElem?.1 hv
    rw [hzm] at hj
    exact One.made hone _ (fun _ => by omega) j v (by simpa using hj)
  have hz0 : n.toNat = 0 → (Builtin.zeroCells z.cells n.toNat) = #[] := fun h => by rw [h]; unfold Builtin.zeroCells; simp
  refine ⟨fun h base c => ?_, fun b off sLen sCap h1 h2 h3 => ?_, fun base sLen sCap olds h1 h2 h3 => ?_⟩
  · have hn0 : n = 0 := by omega
    subst hn0
    cases base <;> simp [Builtin.append_, run_underlying ht, run_underlying hk, Go.sizeOf, typeInfo, hi, asInt, asIntOf, hw, storeCells]
  · have hst := run_storeCells_cells (P := P) b (off + sLen * i.size) (Builtin.zeroCells z.cells n.toNat).toList 0 w (by simpa using h2) (by simpa using h3) hones
    simp only [Nat.add_zero] at hst
    by_cases hq : n.toNat = 0
    · have hn0 : n = 0 := by omega
      subst hn0
      have h1' : sLen ≤ sCap := by omega
      simp [Builtin.append_, run_underlying ht, run_underlying hk, Go.sizeOf, typeInfo, hi, asInt, asIntOf, hw, h1', storeCells, World.setCells, Builtin.zeroCells]
    · have hq' : ¬ (n.toNat * i.size = 0) := fun h => hq (hm.1 h)
      simp [Builtin.append_, run_underlying ht, run_underlying hk, Go.sizeOf, typeInfo, hi, asInt, asIntOf, hw, n1, n2, zeroValue, hz, Addr.add_lit, h1, hq', hst]
  · have g1 : ¬ (sLen + n.toNat ≤ sCap) := by omega
    have g2' : ¬ (9223372036854775807 < ((sLen : Int) + max n 0)) := by unfold most at h3; omega
    have g3 : ¬ (281474976710656 < Builtin.nextslicecap (sLen + n.toNat) sCap * i.bytes) := by
      have := growslice_fits h2 (fits h3 hb)
      omega
    by_cases hq : n.toNat = 0
    · have hn0 : n = 0 := by omega
      subst hn0
      have g1' : ¬ (sLen ≤ sCap) := by omega
      have g3' : ¬ (281474976710656 < Builtin.nextslicecap sLen sCap * i.bytes) := by simpa using g3
      have g2'' : ¬ (9223372036854775807 < (sLen : Int)) := by unfold most at h3; omega
      simp [Builtin.append_, run_underlying ht, run_underlying hk, Go.sizeOf, typeInfo, hi, asInt, asIntOf, hw, g1', g2'', g3', zeroValue, hz, Question.forced, h1, newRow, grownCap, Builtin.zeroCells]
    · have hq' : ¬ (n.toNat * i.size = 0) := fun h => hq (hm.1 h)
      simp [Builtin.append_, run_underlying ht, run_underlying hk, Go.sizeOf, typeInfo, hi, asInt, asIntOf, hw, n1, n2, zeroValue, hz, g1, g2', g3, hq', Question.forced, h1, newRow, grownCap]
      congr 2
      apply Array.ext'
      simp [List.append_assoc]

/-- behind an append -/
theorem append_rel {t tx ty e n0 : Nat} {te : TI} {s : AV} {v u : Value} {new : List (List AV)} {news : List Value} {eff : Eff} (dst : Option Nat) (he : elemT (tiOf P) t = some (e, te)) (hpos : 0 < te.size) (hR : Real M ρ β hp lo w.heap)
    (h : appendA hp n0 e te s new = some eff) (hs : ERel M ρ β hp s v) (hA : ∀ (i : TypeInfo) (z : Value), P.info? e = some i → i.zero = some z → App P w t tx ty e i.size z.cells u new.length news)
    (hN : News M ρ hp te.size new news) : ∃ v' w', (Builtin.append_ #[t, tx] ty #[v, u]).run P w = .ok v' w' ∧ PostE M ρ β hp lo w dst eff v' w' := by
  obtain ⟨hu, hte⟩ := elemT_some he
  obtain ⟨ie, ze, de, hie, hze, hzec, hzel, _, hse, hbe, _, _⟩ := tiOf_some hte
  obtain ⟨z1, z2, z3⟩ := zero_rel (M := M) (ρ := ρ) (hp := hp) hzec hzel
  have A := hA ie ze hie hze
  rw [← hse] at A
  have hzz : ze.cells.size = te.size := by omega
  have hzc1 : ∀ m, One (Builtin.zeroCells ze.cells m) := fun m => by
    have hzm : Builtin.zeroCells ze.cells m = madeCells ze.cells (m * te.size) := by unfold Builtin.zeroCells madeCells; rw [hzz]
    rw [hzm]
    exact One.made z2 _ (fun _ => by omega)
  -- a new block of rows 'olds ++ new'
  have newBlock : ∀ (olds : List Value) (all : List (List AV)) (k : Nat), News M ρ hp te.size all (olds ++ news) → all.length ≤ k →
      let c := (olds ++ news).toArray ++ Builtin.zeroCells ze.cells (k - all.length)
      c.size = k * te.size ∧ One c ∧ RowsIn M ρ hp te.size all c := by
    intro olds all k hN' hk
    have hl := hN'.len
    refine ⟨?_, fun j x hj => ?_, fun i row j x y hi hx hy => ?_⟩
    · rw [Array.size_append, List.size_toArray, hl, size_zeroCells, hzz, ← Nat.add_mul]
      congr 1
      omega
    · rw [Array.getElem?_append] at hj
      split at hj
      · exact hN'.one x (List.mem_of_getElem? (by simpa using hj))
      · exact hzc1 _ _ _ hj
    · have hj : j < te.size := by have := (List.getElem?_eq_some_iff.1 hx).1; rw [hN'.rows row (List.mem_of_getElem? hi)] at this; exact this
      have hil : i < all.length := (List.getElem?_eq_some_iff.1 hi).1
      have hlt : i * te.size + j < (olds ++ news).length := by
        rw [hl]
        have := Nat.mul_le_mul_right te.size (show i + 1 ≤ all.length by omega)
        rw [Nat.succ_mul] at this
        omega
      rw [Array.getElem?_append_left (by simpa using hlt)] at hy
      exact hN'.rel i row j x y hi hx (by simpa using hy)
  -- a slice without memory
  have bare : ∀ (base : Option Addr), v = .slice base 0 0 → (s = .nilsl ∨ s = .esl) → ∃ v' w', (Builtin.append_ #[t, tx] ty #[v, u]).run P w = .ok v' w' ∧ PostE M ρ β hp lo w dst eff v' w' := by
    intro base hv hs'
    subst hv
    have hcase : (new = [] ∧ eff = { v := s }) ∨ (new ≠ [] ∧ new.length ≤ most ∧ eff = { v := .sl hp.length 0 new.length new.length, hp := some (hp ++ [⟨e, te.size, new⟩]) }) := by
      unfold appendA at h
      rcases hs' with rfl | rfl <;>
      · cases new with
        | nil => simp at h; exact .inl ⟨rfl, h.symm⟩
        | cons r l =>
          simp only at h
          split at h
          · rename_i hm; cases h; exact .inr ⟨by simp, hm, rfl⟩
          · cases h
    rcases hcase with ⟨rfl, rfl⟩ | ⟨hne, hm, rfl⟩
    · exact ⟨_, _, A.nothing rfl base 0, M, ρ, β, SubM.refl _, Ext.refl _ _, hR, hs, Adv.refl _, .inl rfl⟩
    · have hlen : 0 < new.length := List.length_pos_iff.2 hne
      have hrun := A.grow base 0 0 [] (by cases base <;> simp [Builtin.firstCells, loadCells, loadCellsFrom]) (by omega) (by omega)
      simp only [Nat.zero_add, List.nil_append] at hrun
      have hge := grownCap_ge w new.length 0 e
      obtain ⟨c1, c2, c3⟩ := newBlock [] new (grownCap w new.length 0 e) (by simpa using hN) hge
      simp only [List.nil_append] at c1 c2 c3
      have hR' := hR.snoc ⟨e, te.size, new⟩ _ hpos (by rw [c1]; exact Nat.mul_le_mul_right _ hge) hN.rows c2 c3
      refine ⟨_, _, hrun, M, _, β, SubM.refl _, Ext.snoc ⟨e, te.size, new⟩ ⟨w.heap.size, _⟩, hR', .inr ?_, ⟨rfl, rfl, rfl, by simp, by first | exact Nat.le_refl _ | exact Nat.le_succ _⟩, .inl rfl⟩
      refine .sl (b := ⟨e, te.size, new⟩) (l := ⟨w.heap.size, _⟩) (by simp) (upd_same _ _ _) (Nat.le_refl _) rfl (fun _ => ⟨0, _, rfl, hge, fun _ => by simp, fun _ => ?_⟩)
      exact c1.symm
  unfold appendA at h
  split at h
  · cases hs.v (fun _ _ e => by cases e)
    exact bare none rfl (.inl rfl)
  · cases hs.v (fun _ _ e => by cases e) with
    | esl a => exact bare a rfl (.inr rfl)
  · rename_i k n tt
    split at h
    · rename_i b hb
      obtain ⟨hb1, hb2⟩ := fresh_some hb
      split at h
      · rename_i hc
        obtain ⟨hbe', hbs, hmost⟩ := hc
        cases hs.v (fun _ _ e => by cases e) with
        | @sl _ _ _ _ _ b' l hb' hl hle _ hsl =>
          rw [hb1] at hb'
          cases hb'
          obtain ⟨off, cap, rfl, hnc, hoff, hcap⟩ := hsl hb2
          have hoff := hoff (.inr rfl)
          rw [Nat.zero_mul] at hoff
          subst hoff
          have hcap := hcap rfl
          obtain ⟨l', c, hl', hat⟩ := hR.blk k b hb1
          rw [hl] at hl'
          cases hl'
          have hk : k < hp.length := (List.getElem?_eq_some_iff.1 hb1).1
          have hcs := hat.size
          have hrm := hat.room
          rw [hbs] at hcap hrm
          have hnl := hN.len
          have hncs : n * te.size ≤ c.size := by rw [hcs, ← hcap]; exact Nat.mul_le_mul_right _ hnc
          -- in place: rows' from n on
          have inPlace : ∀ (rows' : List (List AV)) (tt' : Nat), n + new.length ≤ cap → b.rows.length ≤ rows'.length → rows'.length * te.size ≤ l.n → tt' = rows'.length →
              (∀ row ∈ rows', row.length = te.size) → (∀ (i : Nat) row, rows'[i]? = some row → (n ≤ i ∧ i < n + new.length ∧ new[i - n]? = some row) ∨ ((i < n ∨ n + new.length ≤ i) ∧ b.rows[i]? = some row)) →
              ∃ v' w', (Builtin.append_ #[t, tx] ty #[.slice (some ⟨l.blk, 0, none⟩) n cap, u]).run P w = .ok v' w' ∧
                PostE M ρ β hp lo w dst { v := .sl k 0 (n + new.length) tt', hp := some (hp.set k { b with rows := rows' }), cl := decide (n0 ≤ k) } v' w' := by
            intro rows' tt' hfit hrl hroom htt hlens hrows
            have hfits : n * te.size + news.length ≤ c.size := by
              rw [hnl, ← Nat.add_mul, hcs, ← hcap]
              exact Nat.mul_le_mul_right _ hfit
            have hrun := A.room l.blk 0 n cap hfit (fun j hj => by rw [cell_at hat.at_]; simp; omega) (fun j hj => by rw [frozen_at hat.at_])
            rw [Nat.zero_add] at hrun
            obtain ⟨c', hc1, hc2, hc3⟩ := setCells_at l.blk news (n * te.size) w c b.e hat.at_ hfits
            obtain ⟨_, _, _, f4, f5⟩ := setCells_frame l.blk news (n * te.size) w
            have hE : Ext ρ hp (upd ρ k l) (hp.set k { b with rows := rows' }) := Ext.set (b' := { b with rows := rows' }) hb1 hl rfl hrl (fun _ => rfl)
            have hR' := hR.setBlk (b' := { b with rows := rows' }) (l' := l) hb1 hl rfl hrl (fun _ => rfl) (by rw [f4]; exact Nat.le_refl _) (fun i _ hi => f5 i hi) (.inl rfl) hc1 (by rw [hc2, hcs]) (by show rows'.length * b.sz ≤ l.n; rw [hbs]; exact hroom) (by show ∀ row ∈ rows', row.length = b.sz; rw [hbs]; exact hlens)
              (fun j y hj => by
                rw [hc3] at hj
                split at hj
                · exact hN.one y (List.mem_of_getElem? hj)
                · exact hat.one _ _ hj)
              (fun i row j x y hi hx hy => by
                show VRel M _ _ x y
                have hi' : rows'[i]? = some row := hi
                have hy' : c'[i * te.size + j]? = some y := by rw [← hbs]; exact hy
                rw [hc3, hnl] at hy'
                have hj : j < te.size := by have := (List.getElem?_eq_some_iff.1 hx).1; rw [hlens row (List.mem_of_getElem? hi')] at this; exact this
                have hexp : (n + new.length) * te.size = n * te.size + new.length * te.size := Nat.add_mul _ _ _
                rcases hrows i row hi' with ⟨h1, h2, h3⟩ | ⟨h1, h3⟩
                · have a1 := Nat.mul_le_mul_right te.size h1
                  have a2 := Nat.mul_le_mul_right te.size (show i + 1 ≤ n + new.length by omega)
                  rw [Nat.succ_mul] at a2
                  rw [if_pos (by omega)] at hy'
                  have : i * te.size + j - n * te.size = (i - n) * te.size + j := by rw [Nat.sub_mul]; omega
                  rw [this] at hy'
                  exact (hN.rel (i - n) row j x y h3 hx hy').mono (SubM.refl _) hE
                · have hnot : ¬ (n * te.size ≤ i * te.size + j ∧ i * te.size + j < n * te.size + new.length * te.size) := by
                    rintro ⟨a1, a2⟩
                    rcases h1 with h1 | h1
                    · have := Nat.mul_le_mul_right te.size (show i + 1 ≤ n by omega)
                      rw [Nat.succ_mul] at this
                      omega
                    · have := Nat.mul_le_mul_right te.size h1
                      omega
                  rw [if_neg hnot] at hy'
                  exact (hat.rows i row j x y h3 hx (by rw [hbs]; exact hy')).mono (SubM.refl _) hE)
            refine ⟨_, _, hrun, M, upd ρ k l, β, SubM.refl _, hE, hR', .inr ?_, Adv.setCells _ _ _ _, .inl rfl⟩
            exact .sl (b := { b with rows := rows' }) (l := l) (by simp [hk]) (upd_same _ _ _) (by rw [htt]; exact Nat.le_refl _) rfl (fun _ => ⟨0, cap, rfl, hfit, fun _ => by simp, fun _ => by show cap * b.sz = l.n; rw [hbs]; exact hcap⟩)
          split at h
          · -- at the end of its rows
            rename_i hnt
            cases h
            have hnr : n = b.rows.length := by omega
            by_cases hfit : n + new.length ≤ cap
            · refine inPlace (b.rows ++ new) _ hfit (by simp) (by rw [List.length_append, ← hnr, ← hcap]; exact Nat.mul_le_mul_right _ hfit) (by rw [List.length_append]; omega) ?_ ?_
              · intro row hrow
                rcases List.mem_append.1 hrow with h1 | h1
                · rw [← hbs]; exact hat.len row h1
                · exact hN.rows row h1
              · intro i row hi
                by_cases hlt : i < b.rows.length
                · rw [List.getElem?_append_left hlt] at hi
                  exact .inr ⟨.inl (by omega), hi⟩
                · rw [List.getElem?_append_right (by omega)] at hi
                  have := (List.getElem?_eq_some_iff.1 hi).1
                  exact .inl ⟨by omega, by omega, by rw [hnr]; exact hi⟩
            · -- a new row
              have holds : (c.extract 0 (n * te.size)).toList.length = n * te.size := by simp; rw [hcs, ← hcap]; exact Nat.min_eq_left (Nat.mul_le_mul_right _ hnc)
              have hfirst : (Builtin.firstCells te.size n (.slice (some ⟨l.blk, 0, none⟩) n cap)).run P w.drew = .ok (c.extract 0 (n * te.size)).toList.toArray w.drew :=
                run_firstCells_some w.drew te.size n ⟨l.blk, 0, none⟩ n cap _ holds (fun j x hj => by
                  rw [Addr.add_mid, Nat.zero_add]
                  show w.cell? _ = _
                  rw [cell_at hat.at_]
                  rw [Array.getElem?_toList, Array.getElem?_extract] at hj
                  split at hj
                  · simpa using hj
                  · cases hj)
              have hrun := A.grow (some ⟨l.blk, 0, none⟩) n cap _ hfirst (by omega) hmost
              have hge := grownCap_ge w (n + new.length) cap e
              have hNall : News M ρ hp te.size (b.rows ++ new) ((c.extract 0 (n * te.size)).toList ++ news) := by
                refine ⟨by rw [List.length_append, holds, hnl, List.length_append, ← hnr, Nat.add_mul], fun row hrow => ?_, fun x hx => ?_, fun i row j x y hi hx hy => ?_⟩
                · rcases List.mem_append.1 hrow with h1 | h1
                  · rw [← hbs]; exact hat.len row h1
                  · exact hN.rows row h1
                · rcases List.mem_append.1 hx with h1 | h1
                  · obtain ⟨j, hj⟩ := List.mem_iff_getElem?.1 h1
                    rw [Array.getElem?_toList, Array.getElem?_extract] at hj
                    split at hj
                    · exact hat.one _ _ hj
                    · cases hj
                  · exact hN.one x h1
                · by_cases hlt : i < b.rows.length
                  · rw [List.getElem?_append_left hlt] at hi
                    have hj : j < te.size := by have := (List.getElem?_eq_some_iff.1 hx).1; rw [hat.len row (List.mem_of_getElem? hi), hbs] at this; exact this
                    have a2 := Nat.mul_le_mul_right te.size (show i + 1 ≤ n by omega)
                    rw [Nat.succ_mul] at a2
                    rw [List.getElem?_append_left (by omega), Array.getElem?_toList, Array.getElem?_extract, if_pos (by omega), Nat.zero_add] at hy
                    exact hat.rows i row j x y hi hx (by rw [hbs]; exact hy)
                  · rw [List.getElem?_append_right (by omega)] at hi
                    have a1 := Nat.mul_le_mul_right te.size (show n ≤ i by omega)
                    rw [List.getElem?_append_right (by omega), holds] at hy
                    have : i * te.size + j - n * te.size = (i - n) * te.size + j := by rw [Nat.sub_mul]; omega
                    rw [this, hnr] at hy
                    exact hN.rel (i - b.rows.length) row j x y hi hx hy
              obtain ⟨c1, c2, c3⟩ := newBlock _ (b.rows ++ new) (grownCap w (n + new.length) cap e) hNall (by rw [List.length_append, ← hnr]; exact hge)
              have hlall : (b.rows ++ new).length = n + new.length := by rw [List.length_append, hnr]
              rw [hlall] at c1 c2 c3
              have hlnew : 0 < new.length := by omega
              have hE : Ext ρ hp (upd ρ k ⟨w.heap.size, _⟩) (hp.set k { b with rows := b.rows ++ new }) := Ext.set (b' := { b with rows := b.rows ++ new }) (l' := ⟨w.heap.size, grownCap w (n + new.length) cap e * te.size⟩) hb1 hl rfl (by simp) (fun h => by simp only [List.length_append] at h; omega)
              have hpush : ∀ g, g < w.heap.size → (w.heap.push (.cells ((c.extract 0 (n * te.size)).toList ++ news |>.toArray |> (· ++ Builtin.zeroCells ze.cells (grownCap w (n + new.length) cap e - (n + new.length)))) e (0, 0)))[g]? = w.heap[g]? := fun g hg => by rw [Array.getElem?_push, if_neg (by omega)]
              have hrowsIn : RowsIn M (upd ρ k ⟨w.heap.size, grownCap w (n + new.length) cap e * te.size⟩) (hp.set k { b with rows := b.rows ++ new }) b.sz (b.rows ++ new) (((c.extract 0 (n * te.size)).toList ++ news).toArray ++ Builtin.zeroCells ze.cells (grownCap w (n + new.length) cap e - (n + new.length))) := by
                intro i row j x y h1 h2 h3
                have hh : i * b.sz + j = i * te.size + j := by rw [hbs]
                rw [hh] at h3
                exact (c3.mono (SubM.refl _) hE) i row j x y h1 h2 h3
              have hR' := hR.setBlk (H' := (w.drew.alloc (.cells (((c.extract 0 (n * te.size)).toList ++ news).toArray ++ Builtin.zeroCells ze.cells (grownCap w (n + new.length) cap e - (n + new.length))) e)).heap)
                (b' := { b with rows := b.rows ++ new }) (l' := ⟨w.heap.size, grownCap w (n + new.length) cap e * te.size⟩) hb1 hl rfl (by simp) (fun h => by simp only [List.length_append] at h; omega)
                (by simp) (fun g hg _ => hpush g hg) (.inr (Nat.le_refl _)) (c' := ((c.extract 0 (n * te.size)).toList ++ news).toArray ++ Builtin.zeroCells ze.cells (grownCap w (n + new.length) cap e - (n + new.length)))
                (by simp only [World.alloc, World.drew]; rw [Array.getElem?_push, if_pos rfl]; exact congrArg some (by rw [hbe'])) c1
                (by show (b.rows ++ new).length * b.sz ≤ _; rw [hlall, hbs]; exact Nat.mul_le_mul_right _ hge) (by show ∀ row ∈ b.rows ++ new, row.length = b.sz; rw [hbs]; exact hNall.rows) c2
                hrowsIn
              refine ⟨_, _, hrun, M, _, β, SubM.refl _, hE, hR', .inr ?_, ⟨rfl, rfl, rfl, by simp, by first | exact Nat.le_refl _ | exact Nat.le_succ _⟩, .inl rfl⟩
              exact .sl (b := { b with rows := b.rows ++ new }) (l := ⟨w.heap.size, grownCap w (n + new.length) cap e * te.size⟩) (by simp [hk]) (upd_same _ _ _) (by show tt + new.length ≤ (b.rows ++ new).length; omega) rfl
                (fun _ => ⟨0, _, rfl, hge, fun _ => by simp, fun _ => by show _ * b.sz = _; rw [hbs]⟩)
          · -- over rows that are there
            split at h
            · rename_i hle'
              cases h
              have htc : n + new.length ≤ cap := by
                have h1 : tt * te.size ≤ cap * te.size := by rw [hcap, hb2]; exact hrm
                have := Nat.le_of_mul_le_mul_right h1 hpos
                omega
              have hlen : (b.rows.take n ++ (new ++ b.rows.drop (n + new.length))).length = b.rows.length := by simp; omega
              refine inPlace (b.rows.take n ++ (new ++ b.rows.drop (n + new.length))) tt htc (by omega) (by rw [hlen]; exact hrm) (by omega) ?_ ?_
              · intro row hrow
                rcases List.mem_append.1 hrow with h1 | h1
                · rw [← hbs]; exact hat.len row (List.mem_of_mem_take h1)
                · rcases List.mem_append.1 h1 with h2 | h2
                  · exact hN.rows row h2
                  · rw [← hbs]; exact hat.len row (List.mem_of_mem_drop h2)
              · intro i row hi
                have ht : (b.rows.take n).length = n := by simp; omega
                by_cases h1 : i < n
                · rw [List.getElem?_append_left (by omega), List.getElem?_take, if_pos h1] at hi
                  exact .inr ⟨.inl h1, hi⟩
                · rw [List.getElem?_append_right (by omega), ht] at hi
                  by_cases h2 : i < n + new.length
                  · rw [List.getElem?_append_left (by omega)] at hi
                    exact .inl ⟨by omega, h2, hi⟩
                  · rw [List.getElem?_append_right (by omega), List.getElem?_drop] at hi
                    exact .inr ⟨.inr (by omega), by rw [show n + new.length + (i - n - new.length) = i by omega] at hi; exact hi⟩
            · cases h
      · cases h
    · cases h
  · cases h

/-- behind a clear -/
theorem clear_rel {t e n0 : Nat} {te : TI} {x : AV} {v : Value} {eff : Eff} (dst : Option Nat) (ty : Nat) (he : elemT (tiOf P) t = some (e, te)) (hR : Real M ρ β hp lo w.heap) (h : clearA hp n0 te.zero x = some eff) (hx : ERel M ρ β hp x v) :
    ∃ w', (Builtin.clear_ #[t] ty #[v]).run P w = .ok (.tuple #[]) w' ∧ PostE M ρ β hp lo w dst eff (.tuple #[]) w' := by
  obtain ⟨hu, hte⟩ := elemT_some he
  obtain ⟨ie, ze, de, hie, hze, hzec, hzel, _, hse, hbe, _, _⟩ := tiOf_some hte
  obtain ⟨z1, z2, z3⟩ := zero_rel (M := M) (ρ := ρ) (hp := hp) hzec hzel
  have tupNil : ∀ {hp : List Blk} {ρ : Rho}, ERel M ρ β hp (.tup []) (.tuple #[]) := .inr (.tup rfl (fun j x u hj _ => by simp at hj))
  unfold clearA at h
  split at h
  · cases h
    cases hx.v (fun _ _ e => by cases e)
    exact ⟨w, by simp [Builtin.clear_, run_underlying hu], M, ρ, β, SubM.refl _, Ext.refl _ _, hR, tupNil, Adv.refl _, .inl rfl⟩
  · cases h
    cases hx.v (fun _ _ e => by cases e) with
    | esl a => exact ⟨w, by cases a <;> simp [Builtin.clear_, run_underlying hu], M, ρ, β, SubM.refl _, Ext.refl _ _, hR, tupNil, Adv.refl _, .inl rfl⟩
  · rename_i k r n tt
    simp only [Option.bind_eq_some_iff] at h
    obtain ⟨b, hb, h⟩ := h
    obtain ⟨hb1, hb2⟩ := fresh_some hb
    split at h
    · rename_i hc
      obtain ⟨hrn, hzs⟩ := hc
      cases h
      cases hx.v (fun _ _ e => by cases e) with
      | @sl _ _ _ _ _ b' l hb' hl hle _ hsl =>
        rw [hb1] at hb'
        cases hb'
        obtain ⟨off, cap, rfl, hnc, hoff, _⟩ := hsl hb2
        obtain ⟨l', c, hl', hat⟩ := hR.blk k b hb1
        rw [hl] at hl'
        cases hl'
        have hk : k < hp.length := (List.getElem?_eq_some_iff.1 hb1).1
        have hcs := hat.size
        have hrm := hat.room
        have hpos := hat.pos
        have hzb : ze.cells.size = b.sz := by omega
        have hN := News.zeros (M := M) (ρ := ρ) (hp := hp) (n := n) hzs hzb z2 z3 hpos
        have hexp : (r + n) * b.sz = r * b.sz + n * b.sz := Nat.add_mul _ _ _
        have hroom : (r + n) * b.sz ≤ b.rows.length * b.sz := Nat.mul_le_mul_right _ hrn
        have hlen : (b.rows.take r ++ (List.replicate n te.zero ++ b.rows.drop (r + n))).length = b.rows.length := by simp; omega
        have hE : Ext ρ hp (upd ρ k l) (hp.set k { b with rows := b.rows.take r ++ (List.replicate n te.zero ++ b.rows.drop (r + n)) }) := Ext.set (b' := { b with rows := _ }) hb1 hl rfl (by rw [hlen]; exact Nat.le_refl _) (fun _ => rfl)
        have hzl : (Builtin.zeroCells ze.cells n).toList.length = n * b.sz := by simp [size_zeroCells, hzb]
        have hfits : r * b.sz + (Builtin.zeroCells ze.cells n).toList.length ≤ c.size := by rw [hzl, hcs]; omega
        obtain ⟨c', hc1, hc2, hc3⟩ := setCells_at l.blk (Builtin.zeroCells ze.cells n).toList (r * b.sz) w c b.e hat.at_ hfits
        obtain ⟨_, _, _, f4, f5⟩ := setCells_frame l.blk (Builtin.zeroCells ze.cells n).toList (r * b.sz) w
        have hR' := hR.setBlk (b' := { b with rows := b.rows.take r ++ (List.replicate n te.zero ++ b.rows.drop (r + n)) }) (l' := l) hb1 hl rfl (by rw [hlen]; exact Nat.le_refl _) (fun _ => rfl) (by rw [f4]; exact Nat.le_refl _) (fun i _ hi => f5 i hi) (.inl rfl) hc1 (by rw [hc2, hcs]) (by show _ * b.sz ≤ l.n; rw [hlen]; exact hrm)
          (fun row hrow => by
            rcases List.mem_append.1 hrow with h1 | h1
            · exact hat.len row (List.mem_of_mem_take h1)
            · rcases List.mem_append.1 h1 with h2 | h2
              · exact hN.rows row h2
              · exact hat.len row (List.mem_of_mem_drop h2))
          (fun j y hj => by
            rw [hc3] at hj
            split at hj
            · exact hN.one y (List.mem_of_getElem? hj)
            · exact hat.one _ _ hj)
          (fun i row j x y hi hx hy => by
            show VRel M _ _ x y
            have hi' : (b.rows.take r ++ (List.replicate n te.zero ++ b.rows.drop (r + n)))[i]? = some row := hi
            have hy' : c'[i * b.sz + j]? = some y := hy
            rw [hc3, hzl] at hy'
            have ht : (b.rows.take r).length = r := by simp; omega
            by_cases h1 : i < r
            · rw [List.getElem?_append_left (by omega), List.getElem?_take, if_pos h1] at hi'
              have hj : j < b.sz := by have := (List.getElem?_eq_some_iff.1 hx).1; rw [hat.len row (List.mem_of_getElem? hi')] at this; exact this
              have a1 := Nat.mul_le_mul_right b.sz (show i + 1 ≤ r by omega)
              rw [Nat.succ_mul] at a1
              rw [if_neg (by omega)] at hy'
              exact (hat.rows i row j x y hi' hx hy').mono (SubM.refl _) hE
            · rw [List.getElem?_append_right (by omega), ht] at hi'
              by_cases h2 : i < r + n
              · rw [List.getElem?_append_left (by simp; omega)] at hi'
                have hj : j < b.sz := by have := (List.getElem?_eq_some_iff.1 hx).1; rw [hN.rows row (List.mem_of_getElem? hi')] at this; exact this
                have a1 := Nat.mul_le_mul_right b.sz (show r ≤ i by omega)
                have a2 := Nat.mul_le_mul_right b.sz (show i + 1 ≤ r + n by omega)
                rw [Nat.succ_mul] at a2
                rw [if_pos (by omega)] at hy'
                have : i * b.sz + j - r * b.sz = (i - r) * b.sz + j := by rw [Nat.sub_mul]; omega
                rw [this] at hy'
                exact (hN.rel (i - r) row j x y hi' hx hy').mono (SubM.refl _) hE
              · rw [List.getElem?_append_right (by simp; omega), List.getElem?_drop] at hi'
                simp only [List.length_replicate] at hi'
                rw [show r + n + (i - r - n) = i by omega] at hi'
                have hj : j < b.sz := by have := (List.getElem?_eq_some_iff.1 hx).1; rw [hat.len row (List.mem_of_getElem? hi')] at this; exact this
                have a1 := Nat.mul_le_mul_right b.sz (show r + n ≤ i by omega)
                rw [if_neg (by omega)] at hy'
                exact (hat.rows i row j x y hi' hx hy').mono (SubM.refl _) hE)
        rcases Nat.eq_zero_or_pos n with h0 | h0
        · subst h0
          refine ⟨w, by simp [Builtin.clear_, run_underlying hu], M, upd ρ k l, β, SubM.refl _, hE, ?_, tupNil, Adv.refl _, .inl rfl⟩
          have hz0 : (Builtin.zeroCells ze.cells 0).toList = [] := by unfold Builtin.zeroCells; simp
          rw [hz0] at hR'
          exact hR'
        · have hst := run_storeCells_cells (P := P) l.blk off (Builtin.zeroCells ze.cells n).toList 0 w (fun j hj => by rw [cell_at hat.at_, hoff (.inl h0)]; simp; omega) (fun j hj => by rw [frozen_at hat.at_]) (fun y hy => hN.one y hy)
          rw [Nat.add_zero, hoff (.inl h0)] at hst
          refine ⟨_, ?_, M, upd ρ k l, β, SubM.refl _, hE, hR', tupNil, Adv.setCells _ _ _ _, .inl rfl⟩
          rw [hoff (.inl h0)]
          have hn0 : n ≠ 0 := by omega
          obtain ⟨m, rfl⟩ : ∃ m, n = m + 1 := ⟨n - 1, by omega⟩
          simp [Builtin.clear_, run_underlying hu, run_zeroValue' hie hze, hst]
    · cases h
  · cases h
end
end Go.Proofs.Ythbmlioknnhleaa.Abs

/- The abstract machine: cutting, indexing, fields, converting. -/
namespace Go.Proofs.Ythbmlioknnhleaa.Abs
open Go

section
variable {P : Program} {M : Mem} {ρ : Rho} {β : Nat → Option Nat} {hp : List Blk} {lo : List (Nat × List AV)} {w : World}

theorem str_type {t : Nat} (h : isStr (tiOf P) t = true) : P.underlying t = some .string := by
  unfold isStr at h
  split at h
  · rename_i ti ht
    obtain ⟨i, z, d, hi, hz, hzc, hzl, htd, hsz, hby, hd, _⟩ := tiOf_some ht
    obtain ⟨_, hs, _, _, _, _⟩ := tyOf_eq (P := P) (t := t)
    split at h
    · rename_i he
      rw [htd] at he
      exact hs he
    · cases h
  · cases h

/-- an optional bound, told and in the world -/
def BndR : Option Int → Option Value → Prop
  | none, none => True
  | some n, some v => ∃ k, v = .int k n
  | _, _ => False

theorem optI_rel {env : List (Nat × AV)} {a : Act} {x : Option Operand} {n : Option Int} (h : optI env x = some n) (hE : ∀ t, x = some (.tmp t) → ERel M ρ β hp (get env t) (a.tmps.getD t undef)) : BndR n (x.map a.eval) := by
  unfold optI at h
  split at h
  · cases h; trivial
  · rename_i x
    split at h
    · rename_i k m hv
      cases h
      exact ⟨k, (opd_rel hv fun t ht => hE t (by rw [ht])).int_inv⟩
    · cases h

theorem cut_bounds {n : Nat} {lo hi : Option Int} {l h : Nat} {vlo vhi : Option Value} (hc : cut n lo hi = some (l, h)) (h1 : BndR lo vlo) (h2 : BndR hi vhi) (isSlice : Bool) (len cap : Nat) (hl : len = n) (hcap : n ≤ cap) :
    l ≤ h ∧ h ≤ n ∧ (Instr.sliceBounds isSlice len cap vlo vhi none).run P w = .ok (l, h, cap) w := by
  subst hl
  unfold cut at hc
  split at hc
  · rename_i hb
    cases hc
    obtain ⟨b1, b2, b3⟩ := hb
    refine ⟨by omega, by omega, ?_⟩
    cases lo with
    | none =>
      cases vlo with
      | some v => exact h1.elim
      | none =>
        cases hi with
        | none =>
          cases vhi with
          | some v => exact h2.elim
          | none => simp [Instr.sliceBounds]
        | some m =>
          cases vhi with
          | none => exact h2.elim
          | some v =>
            obtain ⟨k, rfl⟩ := h2
            simp at b2 b3
            have c1 : 0 ≤ m ∧ m ≤ (cap : Int) := by omega
            simp [Instr.sliceBounds, Instr.sliceBound, asIntOf, c1]
    | some p =>
      cases vlo with
      | none => exact h1.elim
      | some v =>
        obtain ⟨k, rfl⟩ := h1
        cases hi with
        | none =>
          cases vhi with
          | some v => exact h2.elim
          | none =>
            simp at b1 b2
            have c2 : 0 ≤ p ∧ p ≤ (len : Int) := by omega
            simp [Instr.sliceBounds, Instr.sliceBound, asIntOf, c2]
        | some m =>
          cases vhi with
          | none => exact h2.elim
          | some v =>
            obtain ⟨k', rfl⟩ := h2
            simp at b1 b2 b3
            have c1 : 0 ≤ m ∧ m ≤ (cap : Int) := by omega
            have c2 : 0 ≤ p ∧ p ≤ (m.toNat : Int) := by omega
            have c3 : p ≤ max m 0 := by omega
            simp [Instr.sliceBounds, Instr.sliceBound, asIntOf, c1, c2.1, c3]
  · cases hc

theorem slice_type {t e : Nat} (hu : P.underlying t = some (.slice e)) (v : Value) (x y z : Option Value) : (Instr.sliceAt t v x y z).run P w = (Instr.slice t v x y z).run P w := by
  simp [Instr.sliceAt, run_underlying hu]

theorem run_slice_slice {t e : Nat} {i : TypeInfo} (hu : P.underlying t = some (.slice e)) (hi : P.info? e = some i) (a : Option Addr) (n cap l h m : Nat) (x y z : Option Value)
    (hb : (Instr.sliceBounds true n cap x y z).run P w = .ok (l, h, m) w) :
    (Instr.sliceAt t (.slice a n cap) x y z).run P w = .ok (.slice (if m = l then a else a.map (·.add (l * i.size))) (h - l) (m - l)) w := by
  rw [slice_type hu]
  simp [Instr.slice, run_underlying hu, hb, run_sizeOf' hi]

theorem slice_core {t : Nat} {x r : AV} {lo' hi' mx : Option Int} {v : Value} {vlo vhi vmx : Option Value} (h : sliceA (tiOf P) hp t x lo' hi' mx = some r) (hx : ERel M ρ β hp x v)
    (hvi : ∀ k sz n q, x ≠ .vi k sz n q) (h1 : BndR lo' vlo) (h2 : BndR hi' vhi) (h3 : BndR mx vmx) : ∃ u, (Instr.sliceAt t v vlo vhi vmx).run P w = .ok u w ∧ VRel M ρ hp r u := by
  unfold sliceA at h
  split at h
  · -- two bounds
    cases vmx with
    | some v => exact h3.elim
    | none =>
      split at h
      · rename_i s
        rw [hx.str_inv]
        cases hs : isStr (tiOf P) t with
        | false => rw [hs] at h; cases h
        | true =>
          rw [hs] at h
          simp only [cond_true, Option.map_eq_some_iff] at h
          obtain ⟨⟨l, m⟩, hc, rfl⟩ := h
          obtain ⟨_, _, hb⟩ := cut_bounds (P := P) (w := w) hc h1 h2 false s.size s.size rfl (Nat.le_refl _)
          exact ⟨.string (s.extract l m), by simp [Instr.sliceAt, Instr.slice, run_underlying (str_type hs), hb], .str _⟩
      · simp only [Option.bind_eq_some_iff, Option.map_eq_some_iff] at h
        obtain ⟨⟨e, te⟩, he, ⟨l, m⟩, hc, rfl⟩ := h
        obtain ⟨hu, hte⟩ := elemT_some he
        obtain ⟨ie, _, _, hie, _, _, _, _, hse, _, _, _⟩ := tiOf_some hte
        cases hx.v (fun _ _ e => by cases e)
        obtain ⟨c1, c2, hb⟩ := cut_bounds (P := P) (w := w) hc h1 h2 true 0 0 rfl (Nat.le_refl _)
        obtain rfl : m = 0 := by omega
        obtain rfl : l = 0 := by omega
        exact ⟨_, run_slice_slice hu hie none 0 0 0 0 0 _ _ _ hb, by simpa using VRel.nilsl⟩
      · simp only [Option.bind_eq_some_iff, Option.map_eq_some_iff] at h
        obtain ⟨⟨e, te⟩, he, ⟨l, m⟩, hc, rfl⟩ := h
        obtain ⟨hu, hte⟩ := elemT_some he
        obtain ⟨ie, _, _, hie, _, _, _, _, hse, _, _, _⟩ := tiOf_some hte
        cases hx.v (fun _ _ e => by cases e) with
        | esl a =>
          obtain ⟨c1, c2, hb⟩ := cut_bounds (P := P) (w := w) hc h1 h2 true 0 0 rfl (Nat.le_refl _)
          obtain rfl : m = 0 := by omega
          obtain rfl : l = 0 := by omega
          exact ⟨_, run_slice_slice hu hie a 0 0 0 0 0 _ _ _ hb, by simpa using VRel.esl a⟩
      · rename_i k r0 n tt
        simp only [Option.bind_eq_some_iff] at h
        obtain ⟨⟨e, te⟩, he, b, hb0, h⟩ := h
        obtain ⟨hu, hte⟩ := elemT_some he
        obtain ⟨ie, _, _, hie, _, _, _, _, hse, _, _, _⟩ := tiOf_some hte
        obtain ⟨hb1, hb2⟩ := fresh_some hb0
        simp only at h
        split at h
        · rename_i hcnd
          obtain ⟨hsz, hrn⟩ := hcnd
          simp only [Option.map_eq_some_iff] at h
          obtain ⟨⟨l, m⟩, hc, rfl⟩ := h
          cases hx.v (fun _ _ e => by cases e) with
          | @sl _ _ _ _ _ b' pl hb' hl hle _ hsl =>
            rw [hb1] at hb'
            cases hb'
            obtain ⟨off, cap, rfl, hnc, hoff, hcap⟩ := hsl hb2
            obtain ⟨c1, c2, hb⟩ := cut_bounds (P := P) (w := w) hc h1 h2 true n cap rfl hnc
            refine ⟨_, run_slice_slice hu hie _ n cap l m cap _ _ _ hb, ?_⟩
            refine .sl hb1 hl (by omega) rfl fun _ => ?_
            by_cases hcl : cap = l
            · rw [if_pos hcl]
              refine ⟨off, cap - l, rfl, by omega, fun hor => ?_, fun hr => ?_⟩
              · rcases hor with h0 | h0
                · omega
                · have : r0 = 0 ∧ l = 0 := by omega
                  rw [hoff (.inr this.1), h0, this.1]
              · have : r0 = 0 ∧ l = 0 := by omega
                rw [this.2, Nat.sub_zero]
                exact hcap this.1
            · rw [if_neg hcl]
              simp only [Option.map_some, Addr.add_mid]
              refine ⟨off + l * ie.size, cap - l, rfl, by omega, fun hor => ?_, fun hr => ?_⟩
              · rw [← hse, hsz]
                have : 0 < n ∨ r0 = 0 := by omega
                rw [hoff this, Nat.add_mul]
              · have : r0 = 0 ∧ l = 0 := by omega
                rw [this.2, Nat.sub_zero]
                exact hcap this.1
        · cases h
      · rename_i sz rows
        simp only [Option.bind_eq_some_iff] at h
        obtain ⟨⟨e, te⟩, he, h⟩ := h
        obtain ⟨hu, hte⟩ := elemT_some he
        obtain ⟨ie, _, _, hie, _, _, _, _, hse, _, _, _⟩ := tiOf_some hte
        simp only at h
        split at h
        · rename_i hsz
          simp only [Option.map_eq_some_iff] at h
          obtain ⟨⟨l, m⟩, hc, rfl⟩ := h
          cases hx.v (fun _ _ e => by cases e) with
          | vs0 _ a cap =>
            obtain ⟨c1, c2, hb⟩ := cut_bounds (P := P) (w := w) hc h1 h2 true 0 cap rfl (Nat.zero_le _)
            have hm : m = 0 := by simpa using c2
            have hl : l = 0 := by omega
            subst hm; subst hl
            exact ⟨_, run_slice_slice hu hie a 0 cap 0 0 cap _ _ _ hb, by simpa using VRel.vs0 sz _ _⟩
          | @vs _ _ g off cap c e' f hM hone hn hlen hin hrel =>
            obtain ⟨c1, c2, hb⟩ := cut_bounds (P := P) (w := w) hc h1 h2 true rows.length cap rfl hn
            have hll : ((rows.drop l).take (m - l)).length = m - l := by simp; omega
            have hrun := run_slice_slice (w := w) hu hie (some ⟨g, off, none⟩) rows.length cap l m cap vlo vhi none hb
            by_cases hcl : cap = l
            · rw [if_pos hcl] at hrun
              have hml : m - l = 0 := by omega
              refine ⟨_, hrun, ?_⟩
              have : (rows.drop l).take (m - l) = [] := List.eq_nil_of_length_eq_zero (by omega)
              show VRel M ρ hp (.vs sz ((rows.drop l).take (m - l))) _
              rw [this, hml]
              exact .vs0 _ _ _
            · rw [if_neg hcl] at hrun
              simp only [Option.map_some, Addr.add_mid] at hrun
              refine ⟨_, hrun, ?_⟩
              have hmul : (m - l) * sz + l * sz ≤ rows.length * sz := by
                rw [← Nat.add_mul]
                exact Nat.mul_le_mul_right _ (by omega)
              have key := VRel.vs (ρ := ρ) (hp := hp) (sz := sz) (rows := (rows.drop l).take (m - l)) (g := g) (off := off + l * sz) (cap := cap - l) hM hone (by omega) (fun row hrow => hlen row (List.mem_of_mem_drop (List.mem_of_mem_take hrow))) (by rw [hll]; omega)
                (fun i row j x u hi hxx hu => by
                  rw [List.getElem?_take] at hi
                  split at hi
                  · rw [List.getElem?_drop] at hi
                    exact hrel (l + i) row j x u hi hxx (by rw [Nat.add_mul, ← Nat.add_assoc]; exact hu)
                  · cases hi)
              rw [hll] at key
              rw [← hse, hsz]
              exact key
        · cases h
      · rename_i sz n f
        simp only [Option.bind_eq_some_iff] at h
        obtain ⟨⟨e, te⟩, he, h⟩ := h
        obtain ⟨hu, hte⟩ := elemT_some he
        obtain ⟨ie, _, _, hie, _, _, _, _, hse, _, _, _⟩ := tiOf_some hte
        simp only at h
        split at h
        · rename_i hsz
          simp only [Option.map_eq_some_iff] at h
          obtain ⟨⟨l, m⟩, hc, rfl⟩ := h
          cases hx.v (fun _ _ e => by cases e) with
          | vf0 _ _ a cap =>
            obtain ⟨c1, c2, hb⟩ := cut_bounds (P := P) (w := w) hc h1 h2 true 0 cap rfl (Nat.zero_le _)
            have hm : m = 0 := by simpa using c2
            have hl : l = 0 := by omega
            subst hm; subst hl
            exact ⟨_, run_slice_slice hu hie a 0 cap 0 0 cap _ _ _ hb, by simpa using VRel.vf0 sz _ _ _⟩
          | @vf _ _ _ g off cap c e' fl hM hn hlen hin hrel =>
            obtain ⟨c1, c2, hb⟩ := cut_bounds (P := P) (w := w) hc h1 h2 true n cap rfl hn
            have hrun := run_slice_slice (w := w) hu hie (some ⟨g, off, none⟩) n cap l m cap vlo vhi none hb
            by_cases hcl : cap = l
            · rw [if_pos hcl] at hrun
              have hml : m - l = 0 := by omega
              refine ⟨_, hrun, ?_⟩
              show VRel M ρ hp (.vf sz (m - l) fun i => f (l + i)) _
              rw [hml]
              exact .vf0 _ _ _ _
            · rw [if_neg hcl] at hrun
              simp only [Option.map_some, Addr.add_mid] at hrun
              refine ⟨_, hrun, ?_⟩
              have hmul : (m - l) * sz + l * sz ≤ n * sz := by
                rw [← Nat.add_mul]
                exact Nat.mul_le_mul_right _ (by omega)
              rw [← hse, hsz]
              have hin2 : off + l * sz + (m - l) * sz ≤ c.size := by omega
              refine VRel.vf (off := off + l * sz) (cap := cap - l) hM (by omega) (fun i hi => hlen (l + i) (by omega)) hin2 fun i j x u hi hxx hu' => hrel (l + i) j x u (by omega) hxx (by rw [Nat.add_mul, ← Nat.add_assoc]; exact hu')
        · cases h
      · exact absurd rfl (hvi _ _ _ _)
      · rename_i k r0 c0 tt
        simp only [Option.bind_eq_some_iff] at h
        obtain ⟨⟨n, te⟩, he, b, hb0, h⟩ := h
        obtain ⟨e, hu, hte⟩ := arrT_some he
        obtain ⟨ie, _, _, hie, _, _, _, _, hse, _, _, _⟩ := tiOf_some hte
        obtain ⟨hb1, hb2⟩ := fresh_some hb0
        simp only at h
        split at h
        · rename_i hcnd
          obtain ⟨hsz, hrn, hcn⟩ := hcnd
          simp only [Option.map_eq_some_iff] at h
          obtain ⟨⟨l, m⟩, hc, rfl⟩ := h
          cases hx.v (fun _ _ e => by cases e) with
          | @ptr _ _ _ _ _ b' pl hb' hl hle _ hpt =>
            rw [hb1] at hb'
            cases hb'
            rw [hpt hb2]
            obtain ⟨c1, c2, hb⟩ := cut_bounds (P := P) (w := w) hc h1 h2 false n n rfl (Nat.le_refl _)
            refine ⟨.slice (some (if n = l then ⟨pl.blk, r0 * b.sz + c0, none⟩ else (⟨pl.blk, r0 * b.sz + c0, none⟩ : Addr).add (l * ie.size))) (m - l) (n - l), by simp [Instr.sliceAt, run_underlying hu, Instr.sureAddr, hb, run_sizeOf' hie], ?_⟩
            refine .ssl hb1 hl (by omega) rfl fun _ => ?_
            by_cases hcl : n = l
            · rw [if_pos hcl]
              exact ⟨_, _, rfl, by omega, fun _ => by omega⟩
            · rw [if_neg hcl, Addr.add_mid]
              refine ⟨_, _, rfl, by omega, fun _ => ?_⟩
              rw [← hse, hsz]
              omega
        · cases h
      · cases h
  · -- s[0:0:0]
    rename_i mm
    split at h
    · rename_i hc
      obtain ⟨rfl, hlo, rfl⟩ := hc
      cases vmx with
      | none => exact h3.elim
      | some vm =>
        obtain ⟨km, rfl⟩ := h3
        cases vhi with
        | none => exact h2.elim
        | some vh =>
          obtain ⟨kh, rfl⟩ := h2
          have hbd : ∀ n cap, (Instr.sliceBounds true n cap vlo (some (.int kh 0)) (some (.int km 0))).run P w = .ok (0, 0, 0) w := by
            intro n cap
            cases lo' with
            | none =>
              cases vlo with
              | some v => exact h1.elim
              | none => simp [Instr.sliceBounds, Instr.sliceBound, asIntOf]
            | some p =>
              cases vlo with
              | none => exact h1.elim
              | some v =>
                obtain ⟨k, rfl⟩ := h1
                simp at hlo
                subst hlo
                simp [Instr.sliceBounds, Instr.sliceBound, asIntOf]
          split at h
          · simp only [Option.map_eq_some_iff] at h
            obtain ⟨⟨e, te⟩, he, rfl⟩ := h
            obtain ⟨hu, hte⟩ := elemT_some he
            obtain ⟨ie, _, _, hie, _, _, _, _, hse, _, _, _⟩ := tiOf_some hte
            cases hx.v (fun _ _ e => by cases e)
            exact ⟨_, run_slice_slice hu hie none 0 0 0 0 0 _ _ _ (hbd 0 0), by simpa using VRel.nilsl⟩
          · simp only [Option.map_eq_some_iff] at h
            obtain ⟨⟨e, te⟩, he, rfl⟩ := h
            obtain ⟨hu, hte⟩ := elemT_some he
            obtain ⟨ie, _, _, hie, _, _, _, _, hse, _, _, _⟩ := tiOf_some hte
            cases hx.v (fun _ _ e => by cases e) with
            | esl a => exact ⟨_, run_slice_slice hu hie a 0 0 0 0 0 _ _ _ (hbd 0 0), by simpa using VRel.esl a⟩
          · rename_i k r0 n tt
            simp only [Option.bind_eq_some_iff, Option.map_eq_some_iff] at h
            obtain ⟨⟨e, te⟩, he, b, hb0, rfl⟩ := h
            obtain ⟨hu, hte⟩ := elemT_some he
            obtain ⟨ie, _, _, hie, _, _, _, _, hse, _, _, _⟩ := tiOf_some hte
            obtain ⟨hb1, hb2⟩ := fresh_some hb0
            cases hx.v (fun _ _ e => by cases e) with
            | @sl _ _ _ _ _ b' pl hb' hl hle _ hsl =>
              rw [hb1] at hb'
              cases hb'
              obtain ⟨off, cap, rfl, hnc, hoff, hcap⟩ := hsl hb2
              exact ⟨_, run_slice_slice hu hie _ n cap 0 0 0 _ _ _ (hbd n cap), by simpa using VRel.esl (some _)⟩
          · rename_i sz n f
            simp only [Option.map_eq_some_iff] at h
            obtain ⟨⟨e, te⟩, he, rfl⟩ := h
            obtain ⟨hu, hte⟩ := elemT_some he
            obtain ⟨ie, _, _, hie, _, _, _, _, hse, _, _, _⟩ := tiOf_some hte
            cases hx.v (fun _ _ e => by cases e) with
            | vf0 _ _ a cap => exact ⟨_, run_slice_slice hu hie a 0 cap 0 0 0 _ _ _ (hbd 0 cap), by simpa using VRel.esl a⟩
            | @vf _ _ _ g off cap c e' fl hM hn hlen hin hrel => exact ⟨_, run_slice_slice hu hie (some ⟨g, off, none⟩) n cap 0 0 0 _ _ _ (hbd n cap), by simpa using VRel.esl (some _)⟩
          · exact absurd rfl (hvi _ _ _ _)
          · cases h
    · cases h

theorem slice_rel {t : Nat} {x r : AV} {lo' hi' mx : Option Int} {v : Value} {vlo vhi vmx : Option Value} (h : sliceA (tiOf P) hp t x lo' hi' mx = some r) (hx : ERel M ρ β hp x v)
    (h1 : BndR lo' vlo) (h2 : BndR hi' vhi) (h3 : BndR mx vmx) : ∃ u, (Instr.sliceAt t v vlo vhi vmx).run P w = .ok u w ∧ VRel M ρ hp r u := by
  cases x with
  | vi k sz n q =>
    cases hx.v (fun _ _ e => by cases e) with
    | vi h' hz =>
      cases mx with
      | some m =>
        have hcore : sliceA (tiOf P) hp t (.vf sz n fun i => cellsI k sz (q i)) lo' hi' (some m) = some r := by
          unfold sliceA at h ⊢
          exact h
        exact slice_core (β := β) (w := w) hcore (.inr h') (fun _ _ _ _ e => by cases e) h1 h2 h3
      | none =>
        unfold sliceA at h
        simp only [Option.bind_eq_some_iff] at h
        obtain ⟨⟨e, te⟩, he, h⟩ := h
        simp only at h
        split at h
        · rename_i hsz
          simp only [Option.map_eq_some_iff] at h
          obtain ⟨⟨l, m⟩, hc, rfl⟩ := h
          have hcore : sliceA (tiOf P) hp t (.vf sz n fun i => cellsI k sz (q i)) lo' hi' none = some (.vf sz (m - l) fun i => cellsI k sz (q (l + i))) := by
            unfold sliceA
            simp only [he, Option.bind_some, hsz, if_true, hc, Option.map_some]
          obtain ⟨u, hu, hr⟩ := slice_core (β := β) (w := w) hcore (.inr h') (fun _ _ _ _ e => by cases e) h1 h2 h3
          refine ⟨u, hu, .vi ?_ fun hml hq => ?_⟩
          · simp only [shiftF_eq]
            exact hr
          · -- not nil
            obtain ⟨hty, hte⟩ := elemT_some he
            obtain ⟨ie, _, _, hie, _, _, _, _, hse, _, _, _⟩ := tiOf_some hte
            cases vmx with
            | some v => exact h3.elim
            | none =>
              have some_case : ∀ (b : Addr) (cap : Nat), n ≤ cap → v = .slice (some b) n cap → ∀ m c, u ≠ .slice none m c := by
                intro b cap hcap hv m' c' he'
                subst hv
                obtain ⟨c1, c2, hb⟩ := cut_bounds (P := P) (w := w) hc h1 h2 true n cap rfl hcap
                have hrun := run_slice_slice (w := w) hty hie (some b) n cap l m cap vlo vhi none hb
                rw [hu] at hrun
                cases hrun
                split at he' <;> cases he'
              cases h' with
              | vf0 _ _ a cap =>
                cases a with
                | some b => exact some_case b cap (Nat.zero_le _) rfl
                | none =>
                  obtain ⟨c1, c2, _⟩ := cut_bounds (P := P) (w := w) hc h1 h2 true 0 cap rfl (Nat.zero_le _)
                  have hl : l = 0 := by omega
                  subst hl
                  exact absurd rfl (hz rfl hq _ _)
              | vf hM hn hlen hin hrel => exact some_case _ _ hn rfl
        · cases h
  | _ => exact slice_core h hx (fun _ _ _ _ e => by cases e) h1 h2 h3

theorem len_core {t : Nat} {x r : AV} {v : Value} (ty : Nat) (h : lenA (tiOf P) hp t x = some r) (hx : ERel M ρ β hp x v) (hvi : ∀ k sz n q, x ≠ .vi k sz n q) {tys : Array Nat} {vals : Array Value} (g1 : tys[0]? = some t) (g2 : vals[0]? = some v) :
    ∃ u, (Builtin.len_ tys ty vals).run P w = .ok u w ∧ VRel M ρ hp r u := by
  unfold lenA at h
  split at h
  · rename_i s
    rw [hx.str_inv] at g2
    cases hs : isStr (tiOf P) t with
    | false => rw [hs] at h; cases h
    | true => rw [hs] at h; cases h; exact ⟨.int .i64 s.size, by simp [Builtin.len_, g1, g2, run_underlying (str_type hs), goInt], .int _ _⟩
  · simp only [Option.map_eq_some_iff] at h
    obtain ⟨⟨e, te⟩, he, rfl⟩ := h
    obtain ⟨hu, _⟩ := elemT_some he
    cases hx.v (fun _ _ e => by cases e)
    exact ⟨.int .i64 0, by simp [Builtin.len_, g1, g2, run_underlying hu, goInt], .int _ _⟩
  · simp only [Option.map_eq_some_iff] at h
    obtain ⟨⟨e, te⟩, he, rfl⟩ := h
    obtain ⟨hu, _⟩ := elemT_some he
    cases hx.v (fun _ _ e => by cases e) with
    | esl a => exact ⟨.int .i64 0, by simp [Builtin.len_, g1, g2, run_underlying hu, goInt], .int _ _⟩
  · rename_i sz rows
    simp only [Option.map_eq_some_iff] at h
    obtain ⟨⟨e, te⟩, he, rfl⟩ := h
    obtain ⟨hu, _⟩ := elemT_some he
    cases hx.v (fun _ _ e => by cases e) with
    | vs0 _ a cap => exact ⟨.int .i64 0, by simp [Builtin.len_, g1, g2, run_underlying hu, goInt], .int _ _⟩
    | vs _ _ _ _ _ _ => exact ⟨.int .i64 rows.length, by simp [Builtin.len_, g1, g2, run_underlying hu, goInt], .int _ _⟩
  · rename_i sz n f
    simp only [Option.map_eq_some_iff] at h
    obtain ⟨⟨e, te⟩, he, rfl⟩ := h
    obtain ⟨hu, _⟩ := elemT_some he
    cases hx.v (fun _ _ e => by cases e) with
    | vf0 _ _ a cap => exact ⟨.int .i64 0, by simp [Builtin.len_, g1, g2, run_underlying hu, goInt], .int _ _⟩
    | vf _ _ _ _ _ => exact ⟨.int .i64 n, by simp [Builtin.len_, g1, g2, run_underlying hu, goInt], .int _ _⟩
  · exact absurd rfl (hvi _ _ _ _)
  · rename_i n m q
    simp only [Option.map_eq_some_iff] at h
    obtain ⟨⟨e, te⟩, he, rfl⟩ := h
    obtain ⟨hu, _⟩ := elemT_some he
    cases hx.v (fun _ _ e => by cases e) with
    | vm0 _ _ a cap => exact ⟨.int .i64 0, by simp [Builtin.len_, g1, g2, run_underlying hu, goInt], .int _ _⟩
    | vm _ _ _ _ => exact ⟨.int .i64 n, by simp [Builtin.len_, g1, g2, run_underlying hu, goInt], .int _ _⟩
  · rename_i k r0 n tt
    simp only [Option.bind_eq_some_iff, Option.map_eq_some_iff] at h
    obtain ⟨⟨e, te⟩, he, b, hb0, rfl⟩ := h
    obtain ⟨hu, _⟩ := elemT_some he
    obtain ⟨hb1, hb2⟩ := fresh_some hb0
    cases hx.v (fun _ _ e => by cases e) with
    | @sl _ _ _ _ _ b' pl hb' hl hle _ hsl =>
      rw [hb1] at hb'
      cases hb'
      obtain ⟨off, cap, rfl, hnc, hoff, hcap⟩ := hsl hb2
      exact ⟨.int .i64 n, by simp [Builtin.len_, g1, g2, run_underlying hu, goInt], .int _ _⟩
  · rename_i k r0 c0 n tt
    simp only [Option.bind_eq_some_iff, Option.map_eq_some_iff] at h
    obtain ⟨⟨e, te⟩, he, b, hb0, rfl⟩ := h
    obtain ⟨hu, _⟩ := elemT_some he
    obtain ⟨hb1, hb2⟩ := fresh_some hb0
    cases hx.v (fun _ _ e => by cases e) with
    | @ssl _ _ _ _ _ _ b' pl hb' hl hle _ hsl =>
      rw [hb1] at hb'
      cases hb'
      obtain ⟨off, cap, rfl, hnc, hoff⟩ := hsl hb2
      exact ⟨.int .i64 n, by simp [Builtin.len_, g1, g2, run_underlying hu, goInt], .int _ _⟩
  · simp only [Option.map_eq_some_iff] at h
    obtain ⟨⟨n, te⟩, he, rfl⟩ := h
    obtain ⟨e, hu, _⟩ := arrT_some he
    exact ⟨.int .i64 n, by simp [Builtin.len_, g1, g2, run_underlying hu, goInt], .int _ _⟩

theorem len_rel {t : Nat} {x r : AV} {v : Value} (ty : Nat) (h : lenA (tiOf P) hp t x = some r) (hx : ERel M ρ β hp x v) {tys : Array Nat} {vals : Array Value} (g1 : tys[0]? = some t) (g2 : vals[0]? = some v) :
    ∃ u, (Builtin.len_ tys ty vals).run P w = .ok u w ∧ VRel M ρ hp r u := by
  cases x with
  | vi k sz n q =>
    cases hx.v (fun _ _ e => by cases e) with
    | vi h' _ => exact len_core (β := β) (x := .vf sz n fun i => cellsI k sz (q i)) ty h (.inr h') (fun _ _ _ _ e => by cases e) g1 g2
  | _ => exact len_core ty h hx (fun _ _ _ _ e => by cases e) g1 g2

theorem indexAddr_core {t : Nat} {x i r : AV} {v vi : Value} (h : indexAddrA (tiOf P) hp t x i = some r) (hx : ERel M ρ β hp x v) (hvi : ∀ k sz n q, x ≠ .vi k sz n q) (hi : ERel M ρ β hp i vi) :
    ∃ u, (Instr.indexAt t v vi).run P w = .ok u w ∧ ERel M ρ β hp r u := by
  unfold indexAddrA at h
  split at h
  · rename_i kk i
    rw [hi.int_inv]
    split at h
    · rename_i k r0 n tt
      simp only [Option.bind_eq_some_iff] at h
      obtain ⟨b, hb0, ⟨e, te⟩, he, h⟩ := h
      obtain ⟨hu, hte⟩ := elemT_some he
      obtain ⟨ie, _, _, hie, _, _, _, _, hse, _, _, _⟩ := tiOf_some hte
      obtain ⟨hb1, hb2⟩ := fresh_some hb0
      simp only at h
      split at h
      · rename_i hc
        obtain ⟨hsz, h0, hn, hrn⟩ := hc
        cases h
        cases hx.v (fun _ _ e => by cases e) with
        | @sl _ _ _ _ _ b' pl hb' hl hle _ hsl =>
          rw [hb1] at hb'
          cases hb'
          obtain ⟨off, cap, rfl, hnc, hoff, hcap⟩ := hsl hb2
          have hn0 : 0 < n := by omega
          refine ⟨.pointer (some ((⟨pl.blk, off, none⟩ : Addr).add (i.toNat * ie.size))), by simp [Instr.indexAt, asIntOf, run_underlying hu, h0, hn, run_sizeOf' hie], .inr ?_⟩
          refine .ptr hb1 hl (by omega) rfl fun _ => ?_
          rw [Addr.add_mid, hoff (.inl hn0), ← hse, hsz, Nat.add_mul, Nat.add_zero]
      · cases h
    · rename_i k r0 c0 n tt
      simp only [Option.bind_eq_some_iff] at h
      obtain ⟨b, hb0, ⟨e, te⟩, he, h⟩ := h
      obtain ⟨hu, hte⟩ := elemT_some he
      obtain ⟨ie, _, _, hie, _, _, _, _, hse, _, _, _⟩ := tiOf_some hte
      obtain ⟨hb1, hb2⟩ := fresh_some hb0
      simp only at h
      split at h
      · rename_i hc
        obtain ⟨hsz, h0, hn⟩ := hc
        cases h
        cases hx.v (fun _ _ e => by cases e) with
        | @ssl _ _ _ _ _ _ b' pl hb' hl hle _ hsl =>
          rw [hb1] at hb'
          cases hb'
          obtain ⟨off, cap, rfl, hnc, hoff⟩ := hsl hb2
          have hn0 : 0 < n := by omega
          refine ⟨.pointer (some ((⟨pl.blk, off, none⟩ : Addr).add (i.toNat * ie.size))), by simp [Instr.indexAt, asIntOf, run_underlying hu, h0, hn, run_sizeOf' hie], .inr ?_⟩
          refine .ptr hb1 hl (by omega) rfl fun _ => ?_
          rw [Addr.add_mid, hoff hn0, ← hse, hsz, Nat.mul_one, Nat.add_assoc]
      · cases h
    · rename_i sz rows
      simp only [Option.bind_eq_some_iff] at h
      obtain ⟨⟨e, te⟩, he, h⟩ := h
      obtain ⟨hu, hte⟩ := elemT_some he
      obtain ⟨ie, _, _, hie, _, _, _, _, hse, _, _, _⟩ := tiOf_some hte
      simp only at h
      split at h
      · rename_i hc
        obtain ⟨hsz, h0⟩ := hc
        simp only [Option.map_eq_some_iff] at h
        obtain ⟨row, hrow, rfl⟩ := h
        have hil : i.toNat < rows.length := (List.getElem?_eq_some_iff.1 hrow).1
        cases hx.v (fun _ _ e => by cases e) with
        | vs0 _ a cap => simp at hil
        | @vs _ _ g off cap c e' f hM hone hn hlen hin hrel =>
          have hlt : i < (rows.length : Int) := by omega
          refine ⟨.pointer (some ((⟨g, off, none⟩ : Addr).add (i.toNat * ie.size))), by simp [Instr.indexAt, asIntOf, run_underlying hu, h0, hlt, run_sizeOf' hie], .inr ?_⟩
          rw [Addr.add_mid, ← hse, hsz]
          have hrl := hlen row (List.mem_of_getElem? hrow)
          have hmul := Nat.mul_le_mul_right sz (show i.toNat + 1 ≤ rows.length by omega)
          rw [Nat.succ_mul] at hmul
          have := VRel.vp (ρ := ρ) (hp := hp) (row := row) (q := 0) (off := off + i.toNat * sz) hM (fun j u _ hu => hone _ u hu) (by omega) (fun j x u hx hu => hrel i.toNat row j x u hrow hx hu)
          simpa using this
      · cases h
    · rename_i sz n f
      simp only [Option.bind_eq_some_iff] at h
      obtain ⟨⟨e, te⟩, he, h⟩ := h
      obtain ⟨hu, hte⟩ := elemT_some he
      obtain ⟨ie, _, _, hie, _, _, _, _, hse, _, _, _⟩ := tiOf_some hte
      simp only at h
      split at h
      · rename_i hc
        obtain ⟨hsz, h0, hlt⟩ := hc
        cases h
        cases hx.v (fun _ _ e => by cases e) with
        | vf0 _ _ a cap => simp at hlt; omega
        | @vf _ _ _ g off cap c e' fl hM hn hlen hin hrel =>
          refine ⟨.pointer (some ((⟨g, off, none⟩ : Addr).add (i.toNat * ie.size))), by simp [Instr.indexAt, asIntOf, run_underlying hu, h0, hlt, run_sizeOf' hie], .inr ?_⟩
          rw [Addr.add_mid, ← hse, hsz]
          have hil : i.toNat < n := by omega
          have hrl := hlen i.toNat hil
          have hmul := Nat.mul_le_mul_right sz (show i.toNat + 1 ≤ n by omega)
          rw [Nat.succ_mul] at hmul
          have := VRel.vp (ρ := ρ) (hp := hp) (row := f i.toNat) (q := 0) (off := off + i.toNat * sz) hM (fun j u hj hu => (hrel i.toNat j _ u hil (List.getElem?_eq_getElem hj) hu).one) (by omega) (fun j x u hx hu => (hrel i.toNat j x u hil hx hu).v)
          simpa using this
      · cases h
    · exact absurd rfl (hvi _ _ _ _)
    · rename_i n m q
      simp only [Option.bind_eq_some_iff] at h
      obtain ⟨⟨e, te⟩, he, h⟩ := h
      obtain ⟨hu, hte⟩ := elemT_some he
      obtain ⟨ie, _, _, hie, _, _, _, _, hse, _, _, _⟩ := tiOf_some hte
      simp only at h
      split at h
      · rename_i hc
        obtain ⟨hsz, h0, hlt⟩ := hc
        cases h
        cases hx.v (fun _ _ e => by cases e) with
        | vm0 _ _ a cap => simp at hlt; omega
        | @vm _ _ _ g off cap c e' fl hM hn hin hrel =>
          refine ⟨.pointer (some ((⟨g, off, none⟩ : Addr).add (i.toNat * ie.size))), by simp [Instr.indexAt, asIntOf, run_underlying hu, h0, hlt, run_sizeOf' hie], .inr ?_⟩
          rw [Addr.add_mid, ← hse, hsz]
          have hil : i.toNat < n := by omega
          have := VRel.vp (ρ := ρ) (hp := hp) (row := [.vi .i64 1 (m i.toNat) fun j _ => q i.toNat j]) (q := 0) (off := off + i.toNat) hM (fun j u hj hu => by
            have hj0 : j = 0 := by simpa using hj
            subst hj0
            exact (hrel i.toNat u hil hu).one rfl fun _ e => by cases e) (by simp; omega) (fun j x u hx hu => by
            cases j with
            | zero => simp at hx; subst hx; exact hrel i.toNat u hil hu
            | succ j => simp at hx)
          simpa using this
      · cases h
    · rename_i d c0
      simp only [Option.bind_eq_some_iff] at h
      obtain ⟨⟨n, te⟩, he, h⟩ := h
      obtain ⟨e, hu, hte⟩ := arrT_some he
      obtain ⟨ie, _, _, hie, _, _, _, _, hse, _, _, _⟩ := tiOf_some hte
      simp only at h
      split at h
      · rename_i hc
        obtain ⟨h0, hn⟩ := hc
        cases h
        obtain ⟨g, hg, rfl⟩ := hx.lptr_inv
        refine ⟨.pointer (some ((⟨g, c0, none⟩ : Addr).add (i.toNat * ie.size))), by simp [Instr.indexAt, asIntOf, Instr.sureAddr, run_underlying hu, h0, hn, run_sizeOf' hie], .inl ⟨d, _, g, rfl, hg, ?_⟩⟩
        rw [Addr.add_mid, hse]
      · cases h
    · rename_i row c0
      simp only [Option.bind_eq_some_iff] at h
      obtain ⟨⟨n, te⟩, he, h⟩ := h
      obtain ⟨e, hu, hte⟩ := arrT_some he
      obtain ⟨ie, _, _, hie, _, _, _, _, hse, _, _, _⟩ := tiOf_some hte
      simp only at h
      split at h
      · rename_i hc
        obtain ⟨h0, hn⟩ := hc
        cases h
        cases hx.v (fun _ _ e => by cases e) with
        | @vp _ _ g off c e' f hM hone hin hrel =>
          refine ⟨.pointer (some ((⟨g, off + c0, none⟩ : Addr).add (i.toNat * ie.size))), by simp [Instr.indexAt, asIntOf, Instr.sureAddr, run_underlying hu, h0, hn, run_sizeOf' hie], .inr ?_⟩
          rw [Addr.add_mid, ← hse, Nat.add_assoc]
          exact .vp hM hone hin hrel
      · cases h
    · rename_i k r0 c0 tt
      simp only [Option.bind_eq_some_iff] at h
      obtain ⟨b, hb0, ⟨n, te⟩, he, h⟩ := h
      obtain ⟨e, hu, hte⟩ := arrT_some he
      obtain ⟨ie, _, _, hie, _, _, _, _, hse, _, _, _⟩ := tiOf_some hte
      obtain ⟨hb1, hb2⟩ := fresh_some hb0
      simp only at h
      split at h
      · rename_i hc
        obtain ⟨h0, hn⟩ := hc
        cases h
        cases hx.v (fun _ _ e => by cases e) with
        | @ptr _ _ _ _ _ b' pl hb' hl hle _ hpt =>
          rw [hb1] at hb'
          cases hb'
          rw [hpt hb2]
          refine ⟨.pointer (some ((⟨pl.blk, r0 * b.sz + c0, none⟩ : Addr).add (i.toNat * ie.size))), by simp [Instr.indexAt, asIntOf, Instr.sureAddr, run_underlying hu, h0, hn, run_sizeOf' hie], .inr ?_⟩
          refine .ptr hb1 hl (by omega) rfl fun _ => ?_
          rw [Addr.add_mid, ← hse, Nat.add_assoc]
      · cases h
    · cases h
  · cases h

theorem indexAddr_rel {t : Nat} {x i r : AV} {v vi : Value} (h : indexAddrA (tiOf P) hp t x i = some r) (hx : ERel M ρ β hp x v) (hi : ERel M ρ β hp i vi) :
    ∃ u, (Instr.indexAt t v vi).run P w = .ok u w ∧ ERel M ρ β hp r u := by
  cases x with
  | vi k sz n q =>
    cases hx.v (fun _ _ e => by cases e) with
    | vi h' _ => exact indexAddr_core (β := β) (x := .vf sz n fun i => cellsI k sz (q i)) (by cases i <;> exact h) (.inr h') (fun _ _ _ _ e => by cases e) hi
  | _ => exact indexAddr_core h hx (fun _ _ _ _ e => by cases e) hi

theorem index_rel {t : Nat} {x i r : AV} {v vi : Value} (h : indexA (tiOf P) t x i = some r) (hx : ERel M ρ β hp x v) (hi : ERel M ρ β hp i vi) : ∃ u, (Instr.index t v vi).run P w = .ok u w ∧ VRel M ρ hp r u := by
  unfold indexA at h
  split at h
  · rename_i kk i
    rw [hi.int_inv]
    split at h
    · rename_i s
      rw [hx.str_inv]
      cases hs : isStr (tiOf P) t with
      | false => rw [hs] at h; cases h
      | true =>
        rw [hs] at h
        simp only [cond_true] at h
        split at h
        · rename_i h0
          simp only [Option.map_eq_some_iff] at h
          obtain ⟨b, hb, rfl⟩ := h
          have hb' : s[i.toNat]? = some b := by
            rw [← hb]
            rfl
          exact ⟨.int .u8 b.toNat, by simp [Instr.index, asIntOf, run_underlying (str_type hs), h0, hb'], .int _ _⟩
        · cases h
    · rename_i cs
      simp only [Option.bind_eq_some_iff] at h
      obtain ⟨⟨n, te⟩, he, h⟩ := h
      obtain ⟨e, hu, hte⟩ := arrT_some he
      obtain ⟨ie, _, _, hie, _, _, _, _, hse, _, _, _⟩ := tiOf_some hte
      simp only at h
      split at h
      · rename_i hc
        obtain ⟨h0, hn⟩ := hc
        cases hx.v (fun _ _ e => by cases e) with
        | @agg _ c hs hone hrel =>
          obtain ⟨u, hu', hr⟩ := partOf_rel hte h (by rw [hs]; exact Nat.le_refl _) hone hrel w
          exact ⟨u, by simp only [Instr.index, Sem.run_bind, asIntOf, Sem.run_pure, Result.andThen_ok, run_underlying hu, h0, hn, and_self, if_true, run_sizeOf' hie]; rw [← hse]; exact hu', hr⟩
      · cases h
    · cases h
  · cases h

theorem field_rel {t f : Nat} {x r : AV} {v : Value} (h : fieldA (tiOf P) t x f = some r) (hx : ERel M ρ β hp x v) : ∃ u, (Instr.field t v f).run P w = .ok u w ∧ VRel M ρ hp r u := by
  unfold fieldA at h
  split at h
  · simp only [Option.bind_eq_some_iff] at h
    obtain ⟨⟨off, tf⟩, hf, h⟩ := h
    obtain ⟨gs, g, hu, hg, rfl, htf⟩ := fieldT_some hf
    cases hx.v (fun _ _ e => by cases e) with
    | @agg _ c hs hone hrel =>
      obtain ⟨u, hu', hr⟩ := partOf_rel htf h (by rw [hs]; exact Nat.le_refl _) hone hrel w
      exact ⟨u, by simp [Instr.field, run_underlying hu, hg, asAgg, hu'], hr⟩
  · cases h

theorem fieldAddr_rel {t f : Nat} {p r : AV} {v : Value} (h : fieldAddrA (tiOf P) hp t p f = some r) (hx : ERel M ρ β hp p v) : ∃ u, (Instr.fieldAt t v f).run P w = .ok u w ∧ ERel M ρ β hp r u := by
  unfold fieldAddrA at h
  simp only [Option.bind_eq_some_iff] at h
  obtain ⟨⟨off, tf⟩, hf, h⟩ := h
  obtain ⟨gs, g, hu, hg, rfl, htf⟩ := fieldT_some hf
  obtain ⟨ie, _, _, hie, _, _, _, _, hse, _, _, _⟩ := tiOf_some htf
  simp only at h
  split at h
  · cases h
  · rename_i hne
    rw [hse] at hne
    have hplace : ∀ b o, (fieldPlace ⟨b, o, none⟩ g).run P w = .ok ⟨b, o + g.offset, none⟩ w := fun b o => by simp [fieldPlace, run_sizeOf' hie, hne, Addr.add_mid]
    split at h
    · rename_i d c0
      cases h
      obtain ⟨gg, hgg, rfl⟩ := hx.lptr_inv
      exact ⟨_, by simp [Instr.fieldAt, run_underlying hu, hg, Instr.sureAddr, hplace], .inl ⟨d, _, gg, rfl, hgg, rfl⟩⟩
    · rename_i row q
      cases h
      cases hx.v (fun _ _ e => by cases e) with
      | @vp _ _ gg off c e' ff hM hone hin hrel =>
        refine ⟨.pointer (some ⟨gg, off + q + g.offset, none⟩), by simp [Instr.fieldAt, run_underlying hu, hg, Instr.sureAddr, hplace], .inr ?_⟩
        rw [Nat.add_assoc]
        exact .vp hM hone hin hrel
    · rename_i k r0 c0 tt
      simp only [Option.map_eq_some_iff] at h
      obtain ⟨b, hb0, rfl⟩ := h
      obtain ⟨hb1, hb2⟩ := fresh_some hb0
      cases hx.v (fun _ _ e => by cases e) with
      | @ptr _ _ _ _ _ b' pl hb' hl hle _ hpt =>
        rw [hb1] at hb'
        cases hb'
        rw [hpt hb2]
        refine ⟨.pointer (some ⟨pl.blk, r0 * b.sz + c0 + g.offset, none⟩), by simp [Instr.fieldAt, run_underlying hu, hg, Instr.sureAddr, hplace], .inr ?_⟩
        exact .ptr hb1 hl (by omega) rfl fun _ => by rw [Nat.add_assoc]
    · cases h

end
end Go.Proofs.Ythbmlioknnhleaa.Abs

/- The abstract machine: converting. -/
namespace Go.Proofs.Ythbmlioknnhleaa.Abs
open Go

section
variable {P : Program} {M : Mem} {ρ : Rho} {β : Nat → Option Nat} {hp : List Blk} {lo : List (Nat × List AV)} {w : World}

theorem bytes_type {t : Nat} (h : isBytes (tiOf P) t = true) : ∃ e, P.underlying t = some (.slice e) ∧ P.underlying e = some (.int .u8) := by
  unfold isBytes at h
  split at h
  · rename_i e te he
    obtain ⟨hu, hte⟩ := elemT_some he
    obtain ⟨i, z, d, hi, hz, hzc, hzl, htd, hsz, hby, hd, _⟩ := tiOf_some hte
    obtain ⟨hk, _⟩ := tyOf_eq (P := P) (t := e)
    split at h
    · rename_i hb
      rw [htd] at hb
      exact ⟨e, hu, hk _ hb⟩
    · cases h
  · cases h

theorem bytesOf_rel : ∀ (rows : List (List AV)) (l : List UInt8) (news : List Value), bytesOf rows = some l → news.length = rows.length →
    (∀ (i : Nat) row (j : Nat) x u, rows[i]? = some row → row[j]? = some x → news[i * 1 + j]? = some u → VRel M ρ hp x u) →
    ∃ ns : List Int, news = ns.map (Value.int .u8) ∧ ns.map (fun n => UInt8.ofNat n.toNat) = l
  | [], l, news, h, hl, _ => by
    simp [bytesOf] at h
    subst h
    exact ⟨[], by simpa using hl, rfl⟩
  | row :: rows, l, news, h, hl, hr => by
    unfold bytesOf at h
    split at h
    · rename_i he; cases he
    · rename_i n l0 he
      obtain ⟨rfl, rfl⟩ := List.cons.inj he
      simp only [Option.map_eq_some_iff] at h
      obtain ⟨l', hl', rfl⟩ := h
      cases news with
      | nil => simp at hl
      | cons u news =>
        have hu := hr 0 _ 0 _ u rfl rfl rfl
        rw [hu.int_inv]
        obtain ⟨ns, h1, h2⟩ := bytesOf_rel rows l' news hl' (by simpa using hl) (fun i row j x u hi hx hu => hr (i + 1) row j x u (by simpa using hi) hx (by rw [Nat.add_mul, Nat.one_mul, Nat.add_right_comm]; simpa using hu))
        exact ⟨n :: ns, by simp [h1], by simp [h2]⟩
    · cases h

theorem conv_rel {src dst : Nat} {x r : AV} {v : Value} (hR : Real M ρ β hp lo w.heap) (h : convA (tiOf P) hp src dst x = some r) (hx : ERel M ρ β hp x v) : ∃ u, (convert src dst v).run P w = .ok u w ∧ VRel M ρ hp r u := by
  unfold convA at h
  simp only [Option.bind_eq_some_iff] at h
  obtain ⟨ts, hts, ti, hti, h⟩ := h
  obtain ⟨i, z, d, hi, hz, hzc, hzl, htd, hsz, hby, hd, _⟩ := tiOf_some hti
  obtain ⟨is, zs, ds, his, _, _, _, _, _, _, hds, _⟩ := tiOf_some hts
  obtain ⟨hk, hstr, _⟩ := tyOf_eq (P := P) (t := dst)
  rw [htd] at h
  split at h
  · rename_i k hty
    have hdst := hk _ hty
    split at h
    · rename_i k' n
      cases h
      rw [hx.int_inv]
      exact ⟨.int k (k.wrap n), by cases ds <;> simp [convert, run_underlying hds, run_underlying hdst, Conv.intToInt], .int _ _⟩
    · cases h
  · rename_i hty
    have hdst := hstr hty
    split at h
    · rename_i s
      cases h
      rw [hx.str_inv]
      exact ⟨.string s, by cases ds <;> simp [convert, run_underlying hds, run_underlying hdst], .str _⟩
    · rename_i k r0 n t
      cases hb : isBytes (tiOf P) src with
      | false => rw [hb] at h; cases h
      | true =>
        rw [hb] at h
        simp only [cond_true, Option.bind_eq_some_iff, Option.map_eq_some_iff] at h
        obtain ⟨rows, hrows, l, hl, rfl⟩ := h
        obtain ⟨e, hue, hbe⟩ := bytes_type hb
        have hsrc : isSrc (tiOf P) src = true := by
          unfold isSrc
          rw [hts]
          obtain ⟨_, _, _, _, _, _, _, htd', _⟩ := tiOf_some hts
          simp only [htd', tyOf, hue]
        obtain ⟨news, hS, hN⟩ := src_rel hR hsrc hx hrows
        cases hx.v (fun _ _ e => by cases e) with
        | @sl _ _ _ _ _ b' pl hb' hl' hle _ hsl =>
          have hfr : ∃ b, fresh hp k t = some b ∧ (b.sz = 1 ∧ r0 + n ≤ b.rows.length) ∧ rows = (b.rows.drop r0).take n := by
            simp only [rowsA, Option.bind_eq_some_iff] at hrows
            obtain ⟨b, hb, h⟩ := hrows
            split at h
            · rename_i hc; cases h; exact ⟨b, hb, hc, rfl⟩
            · cases h
          obtain ⟨b, hfb, ⟨hb1sz, hrn⟩, hrw⟩ := hfr
          obtain ⟨hb1, hb2⟩ := fresh_some hfb
          rw [hb1] at hb'
          cases hb'
          obtain ⟨off, cap, rfl, hnc, hoff, hcap⟩ := hsl hb2
          have hrl : rows.length = n := by rw [hrw]; simp; omega
          obtain ⟨ns, hns, hmap⟩ := bytesOf_rel rows l news hl (by rw [hN.len, Nat.mul_one]) hN.rel
          have hcells : (loadCells ⟨pl.blk, off, none⟩ n).run P w = .ok (ns.map (Value.int .u8)).toArray w := by
            have := hS.cells
            simp only [Builtin.firstCells, Nat.mul_one, hrl] at this
            rw [this, hns]
          refine ⟨.string ⟨l.toArray⟩, ?_, .str _⟩
          rw [run_convert_bytes_string w src dst e _ n cap hue hbe hdst, run_bytesToString w _ n cap ns hcells, foldl_push_bytes, hmap]
          simp [ByteArray.empty, ByteArray.emptyWithCapacity]
          rfl
    · cases h
  · cases h

end
end Go.Proofs.Ythbmlioknnhleaa.Abs

/- The abstract machine: what one operation does is so. -/
namespace Go.Proofs.Ythbmlioknnhleaa.Abs
open Go

/-- what a call tells is so -/
def RecSound (P : Program) (rec : Rec) : Prop := ∀ (f : Nat) (vs : List AV) (hp : List Blk) (v : AV) (hp' : List Blk) (c : Nat), rec f vs hp = some (v, hp', c) → allNoL vs = true →
  (∃ fn, P.funcs[f]? = some fn ∧ fn.body.isSome = true ∧ (fn.name == "runtime.NumGoroutine") = false) ∧
  ∀ (M : Mem) (ρ : Rho) (β : Nat → Option Nat) (lo : List (Nat × List AV)) (w : World) (xs : Array Value), Real M ρ β hp lo w.heap → xs.size = vs.length → (∀ (j : Nat) x u, vs[j]? = some x → xs[j]? = some u → VRel M ρ hp x u) →
    Calls P f xs w fun e w' => ∃ u, e = .returned u ∧ ∃ M' ρ', SubM M M' ∧ Ext ρ hp ρ' hp' ∧ Real M' ρ' β hp' lo w'.heap ∧ VRel M' ρ' hp' v u ∧ Adv w w'

theorem val_some {x : Option AV} {e : Eff} (h : val x = some e) : ∃ v, x = some v ∧ e = { v := v } := by
  unfold val at h
  simp only [Option.map_eq_some_iff] at h
  obtain ⟨v, hv, rfl⟩ := h
  exact ⟨v, hv, rfl⟩

theorem run_callFunc {P : Program} {f : Nat} {fn : Func} {xs : Array Value} {w : World} (hf : P.funcs[f]? = some fn) (hb : fn.body.isSome = true) (hn : (fn.name == "runtime.NumGoroutine") = false) :
    (callFunc f xs).run P w = .ok (.enter f xs) w := by
  have hb' : fn.body.isNone = false := by cases h : fn.body <;> simp_all
  have hpr : Sem.run P program w = .ok P w := by simp
  simp only [callFunc, Sem.run_bind, hpr, Result.andThen_ok, hf, hn, hb', Bool.false_eq_true, if_false, Sem.run_pure]

section
variable {P : Program} {M : Mem} {ρ : Rho} {β : Nat → Option Nat} {w : World} {st : St} {a : Act} {o : Oper} {e : Eff}

theorem post_of {lo : List (Nat × List AV)} {hp : List Blk} {v : AV} {u : Value} (hR : Real M ρ β hp lo w.heap) (h : (execOp a.eval o).run P w = .ok (.value u) w) (hv : ERel M ρ β hp v u) :
    Outs P o a w (PostE M ρ β hp lo w o.dst { v := v }) := post_value hR h rfl rfl hv

theorem call_sound {rec : Rec} {f : Nat} {vs : List AV} {xs : Array Value} (hrec : RecSound P rec) (hR : Real M ρ β st.hp st.lo w.heap) (h : callA rec st.hp st.n0 f vs = some e) (hl : xs.size = vs.length)
    (hx : ∀ (j : Nat) x u, vs[j]? = some x → xs[j]? = some u → ERel M ρ β st.hp x u) (hgo : ∀ fn, P.funcs[f]? = some fn → fn.body.isSome = true → (fn.name == "runtime.NumGoroutine") = false → (execOp a.eval o).run P w = .ok (.enter f xs) w) :
    Outs P o a w (PostE M ρ β st.hp st.lo w o.dst e) := by
  unfold callA at h
  cases hL : allNoL vs with
  | false => rw [hL] at h; cases h
  | true =>
    rw [hL] at h
    simp only [cond_true, Option.map_eq_some_iff] at h
    obtain ⟨⟨v, hp', c⟩, hr, rfl⟩ := h
    obtain ⟨⟨fn, hf, hb, hn⟩, hcall⟩ := hrec _ _ _ _ _ _ hr hL
    refine .enter (hgo fn hf hb hn) ((hcall M ρ β st.lo w xs hR hl fun j x u h1 h2 => (hx j x u h1 h2).noL (allNoL_get vs hL j x h1)).mono fun e' w' ⟨u, he, M', ρ', hM, hE, hR', hv, hA⟩ => ⟨u, he, M', ρ', β, hM, hE, hR', .inr hv, hA, .inl rfl⟩)

theorem builtin_sound {b : Builtin} {c : Call} {vs : List AV} (hR : Real M ρ β st.hp st.lo w.heap) (ho : o.op = .call c) (hc : c.callee = .builtin b) (h : builtinA (tiOf P) st b c.argTypes.toList vs = some e)
    (hl : (c.args.map a.eval).size = vs.length) (hx : ∀ (j : Nat) x u, vs[j]? = some x → (c.args.map a.eval)[j]? = some u → ERel M ρ β st.hp x u) : Outs P o a w (PostE M ρ β st.hp st.lo w o.dst e) := by
  generalize hxs : c.args.map a.eval = xs at hl hx
  have hgo : ∀ r, (∀ cs, (builtin b c.argTypes o.type cs xs).run P w = r) → (execOp a.eval o).run P w = r := by
    intro r hr
    simp only [execOp, ho, resolve, hc, hxs, invoke, Sem.run_bind, Sem.run_pure, Result.andThen_ok, hr]
  have arr1 : ∀ {x : AV} {l : List AV}, vs = x :: l → ∃ u, xs[0]? = some u ∧ ERel M ρ β st.hp x u := by
    intro x l hv
    have : 0 < xs.size := by rw [hl, hv]; simp
    exact ⟨xs[0], by simp [this], hx 0 x _ (by rw [hv]; rfl) (by simp [this])⟩
  have lst : xs.toList.length = vs.length := by rw [Array.length_toList]; exact hl
  unfold builtinA at h
  split at h
  · -- len
    rename_i ty tl x vl hty
    obtain ⟨u, hu, hru⟩ := arr1 rfl
    obtain ⟨v, hv, rfl⟩ := val_some h
    obtain ⟨u', hrun, hr⟩ := len_rel (w := w) o.type hv hru (tys := c.argTypes) (vals := xs) (by rw [← Array.getElem?_toList, hty]; rfl) hu
    exact post_of hR (hgo _ fun cs => by simp [builtin, hrun]) (.inr hr)
  · -- cap
    rename_i ty tl vl hty
    obtain ⟨u, hu, hru⟩ := arr1 rfl
    simp only [Option.map_eq_some_iff] at h
    obtain ⟨⟨el, te⟩, he, rfl⟩ := h
    obtain ⟨hut, _⟩ := elemT_some he
    cases hru.v (fun _ _ e => by cases e)
    have g1 : c.argTypes[0]? = some ty := by rw [← Array.getElem?_toList, hty]; rfl
    exact post_of hR (hgo _ fun cs => by simp [builtin, Builtin.cap_, g1, hu, run_underlying hut, goInt]) (.inr (.int _ _))
  · -- append
    rename_i ty ty2 s x hty
    have hty' : c.argTypes = #[ty, ty2] := by rw [← Array.toList_inj, hty]
    obtain ⟨v, u, rfl⟩ : ∃ v u, xs = #[v, u] := by
      cases xs with
      | mk l =>
        simp at lst
        match l, lst with
        | [v, u], _ => exact ⟨v, u, rfl⟩
    have hv := hx 0 s v rfl rfl
    have hu := hx 1 x u rfl rfl
    have fin : ∀ {e' : Eff} {v' w'}, (Builtin.append_ #[ty, ty2] o.type #[v, u]).run P w = .ok v' w' → PostE M ρ β st.hp st.lo w o.dst e' v' w' → Outs P o a w (PostE M ρ β st.hp st.lo w o.dst e') := by
      intro e' v' w' h1 h2
      exact .value (hgo _ fun cs => by simp [builtin, hty', h1]) h2
    simp only [Option.bind_eq_some_iff] at h
    obtain ⟨⟨el, te⟩, he, h⟩ := h
    obtain ⟨hut, hte⟩ := elemT_some he
    obtain ⟨ie, ze, de, hie, hze, hzec, hzel, _, hse, hbe, _, _⟩ := tiOf_some hte
    simp only at h
    split at h
    · rename_i hcnd
      obtain ⟨hby, hpos⟩ := hcnd
      cases hint : isInt (tiOf P) ty2 with
      | true =>
        rw [hint] at h
        simp only [cond_true] at h
        split at h
        · rename_i n
          split at h
          · rename_i hn
            have hkt : ∃ k, P.underlying ty2 = some (.int k) := by
              unfold isInt at hint
              split at hint
              · rename_i t2 ht2
                obtain ⟨_, _, _, _, _, _, _, ht2d, _⟩ := tiOf_some ht2
                obtain ⟨hk, _⟩ := tyOf_eq (P := P) (t := ty2)
                split at hint
                · rename_i k hk'
                  rw [ht2d] at hk'
                  exact ⟨k, hk _ hk'⟩
                · cases hint
              · cases hint
            obtain ⟨k, hk⟩ := hkt
            obtain ⟨z1, z2, z3⟩ := zero_rel (M := M) (ρ := ρ) (hp := st.hp) hzec hzel
            cases hu.int_inv
            obtain ⟨v', w', h1, h2⟩ := append_rel (ty := o.type) (tx := ty2) (u := .int .i64 n) (news := (Builtin.zeroCells ze.cells n.toNat).toList) o.dst he hpos hR h hv (fun i z hi hz => by
              rw [hie] at hi
              cases hi
              rw [hze] at hz
              cases hz
              have := App.ofZeros (w := w) (ty := o.type) hut hk hie hze (by rw [← hbe]; exact hby) (by rw [← hse]; exact hpos) z1 z2 hn.1 hn.2
              simpa using this) (by
                have := News.zeros (M := M) (ρ := ρ) (hp := st.hp) (size := te.size) (n := n.toNat) (zero := te.zero) (by rw [hzel, hse]) (by rw [z1, hse]) z2 z3 hpos
                exact this)
            exact fin h1 h2
          · cases h
        · cases h
      | false =>
        rw [hint] at h
        simp only [cond_false] at h
        cases hsrc : isSrc (tiOf P) ty2 with
        | false => rw [hsrc] at h; cases h
        | true =>
          rw [hsrc] at h
          simp only [cond_true, Option.bind_eq_some_iff] at h
          obtain ⟨new, hnew, h⟩ := h
          obtain ⟨news, hS, hN⟩ := src_rel hR hsrc hu hnew
          obtain ⟨v', w', h1, h2⟩ := append_rel (ty := o.type) (tx := ty2) (u := u) (news := news) o.dst he hpos hR h hv (fun i z hi hz => by
            rw [hie] at hi
            cases hi
            rw [hze] at hz
            cases hz
            exact App.ofSrc hut hie hze (by rw [← hbe]; exact hby) (by rw [← hse]; exact hS)) hN
          exact fin h1 h2
    · cases h
  · -- clear
    rename_i ty x hty
    have hty' : c.argTypes = #[ty] := by rw [← Array.toList_inj, hty]
    obtain ⟨v, rfl⟩ : ∃ v, xs = #[v] := by
      cases xs with
      | mk l =>
        simp at lst
        match l, lst with
        | [v], _ => exact ⟨v, rfl⟩
    have hv := hx 0 x v rfl rfl
    simp only [Option.bind_eq_some_iff] at h
    obtain ⟨⟨el, te⟩, he, h⟩ := h
    obtain ⟨w', h1, h2⟩ := clear_rel o.dst o.type he hR h hv
    exact .value (hgo _ fun cs => by simp [builtin, hty', h1]) h2
  · -- max
    rename_i k n l
    obtain ⟨v, hv, rfl⟩ := val_some h
    cases hxl : xs.toList with
    | nil => rw [hxl] at lst; simp at lst
    | cons u us =>
      have hat : ∀ j : Nat, xs[j]? = (u :: us)[j]? := fun j => by rw [← hxl]; exact (Array.getElem?_toList ..).symm
      have h0 := (hx 0 _ u rfl (by rw [hat]; rfl)).int_inv
      subst h0
      obtain ⟨r, h1, h2⟩ := foldI_rel (P := P) (w := w) (g := Builtin.max2) (β := β) (M := M) (ρ := ρ) (hp := st.hp) (fun k a k' b => by simp [Builtin.max2]) l k n v us hv (by rw [hxl] at lst; simpa using lst) (fun j x u a b => hx (j + 1) x u (by simpa using a) (by rw [hat]; simpa using b))
      exact post_of hR (hgo _ fun cs => by simp [builtin, Builtin.max_, hxl, h1]) (.inr h2)
  · -- min
    rename_i k n l
    obtain ⟨v, hv, rfl⟩ := val_some h
    cases hxl : xs.toList with
    | nil => rw [hxl] at lst; simp at lst
    | cons u us =>
      have hat : ∀ j : Nat, xs[j]? = (u :: us)[j]? := fun j => by rw [← hxl]; exact (Array.getElem?_toList ..).symm
      have h0 := (hx 0 _ u rfl (by rw [hat]; rfl)).int_inv
      subst h0
      obtain ⟨r, h1, h2⟩ := foldI_rel (P := P) (w := w) (g := Builtin.min2) (β := β) (M := M) (ρ := ρ) (hp := st.hp) (fun k a k' b => by simp [Builtin.min2]) l k n v us hv (by rw [hxl] at lst; simpa using lst) (fun j x u a b => hx (j + 1) x u (by simpa using a) (by rw [hat]; simpa using b))
      exact post_of hR (hgo _ fun cs => by simp [builtin, Builtin.min_, hxl, h1]) (.inr h2)
  · cases h

end
end Go.Proofs.Ythbmlioknnhleaa.Abs

/- The abstract machine: what every operation does is so. -/
namespace Go.Proofs.Ythbmlioknnhleaa.Abs
open Go

section
variable {P : Program} {M : Mem} {ρ : Rho} {β : Nat → Option Nat} {w : World} {st : St} {a : Act} {o : Oper} {e : Eff}

/-- every slot holds what is told of it -/
def EnvR (M : Mem) (ρ : Rho) (β : Nat → Option Nat) (hp : List Blk) (env : List (Nat × AV)) (tmps : Array Value) : Prop := ∀ t, ERel M ρ β hp (get env t) (tmps.getD t undef)

theorem pick_rel {hp : List Blk} {c x y r : AV} {vc vx vy : Value} (h : pickA c x y = some r) (hc : ERel M ρ β hp c vc) (hx : ERel M ρ β hp x vx) (hy : ERel M ρ β hp y vy) :
    ∃ u, ((do pure (if ← asBool vc then vx else vy)) : Sem Value).run P w = .ok u w ∧ ERel M ρ β hp r u := by
  unfold pickA at h
  split at h
  · rename_i t p q
    cases h
    rw [hc.bool_inv, hx.bool_inv, hy.bool_inv]
    exact ⟨.bool (bif t then p else q), by cases t <;> simp [asBool], .inr (.bool _)⟩
  · rename_i t _
    cases h
    rw [hc.bool_inv]
    cases t with
    | true => exact ⟨vx, by simp [asBool], by simpa using hx⟩
    | false => exact ⟨vy, by simp [asBool], by simpa using hy⟩
  · cases h

theorem eff_sound {rec : Rec} {cfg : Cfg} (hrec : RecSound P rec) (hR : Real M ρ β st.hp st.lo w.heap) (hE : EnvR M ρ β st.hp st.env a.tmps) (h : eff (tiOf P) rec cfg o st = some e) :
    Outs P o a w (PostE M ρ β st.hp st.lo w o.dst e) := by
  have op1 : ∀ {x : Operand} {v : AV}, opd st.env x = some v → ERel M ρ β st.hp v (a.eval x) := fun hv => opd_rel hv fun t _ => hE t
  unfold eff at h
  cases ho : o.op with
  | move x =>
    rw [ho] at h
    obtain ⟨v, hv, rfl⟩ := val_some h
    exact post_of hR (u := a.eval x) (by simp [execOp, ho]) (op1 hv)
  | assign x =>
    rw [ho] at h
    obtain ⟨v, hv, rfl⟩ := val_some h
    exact post_of hR (u := a.eval x) (by simp [execOp, ho]) (op1 hv)
  | pick c x y =>
    rw [ho] at h
    simp only [Option.bind_eq_some_iff] at h
    obtain ⟨vc, hc, vx, hx, vy, hy, h⟩ := h
    obtain ⟨v, hv, rfl⟩ := val_some h
    obtain ⟨u, hu, hr⟩ := pick_rel (P := P) (w := w) hv (op1 hc) (op1 hx) (op1 hy)
    refine post_of hR (u := u) ?_ hr
    simp only [Sem.run_bind, Sem.run_pure] at hu
    simp only [execOp, ho, Sem.run_bind, Sem.run_pure]
    cases hb : (asBool (a.eval c)).run P w with
    | ok t w' => rw [hb] at hu; simp only [Result.andThen_ok, Result.ok.injEq] at hu ⊢; exact ⟨by rw [hu.1], hu.2⟩
    | _ => rw [hb] at hu; simp [Result.andThen] at hu
  | alloc el =>
    rw [ho] at h
    simp only [Option.bind_eq_some_iff] at h
    obtain ⟨ti, hti, h⟩ := h
    obtain ⟨i, z, d, hi, hz, hzc, hzl, htd, hsz, hby, hd, _⟩ := tiOf_some hti
    obtain ⟨z1, z2, z3⟩ := zero_rel (M := M) (ρ := ρ) (hp := st.hp) hzc hzl
    refine .value ?_ (varA_rel hR h (c := z.cells) (by rw [z1, hzl]) z2 z3)
    simp [execOp, ho, Instr.alloc, run_zeroValue' hi hz, newVar, newRow]
  | box el x =>
    rw [ho] at h
    simp only [Option.bind_eq_some_iff] at h
    obtain ⟨ti, hti, v, hv, h⟩ := h
    split at h
    · rename_i hc
      obtain ⟨z1, z2, z3⟩ := cells_rel ((op1 hv).noL hc.1) hc.1
      refine .value ?_ (varA_rel hR h (c := (a.eval x).cells) z1 z2 z3)
      simp [execOp, ho, Instr.box, newVar, newRow]
    · cases h
  | build t parts =>
    rw [ho] at h
    simp only [Option.bind_eq_some_iff] at h
    obtain ⟨ps, hps, h⟩ := h
    obtain ⟨v, hv, rfl⟩ := val_some h
    simp only [Option.map_eq_some_iff] at hv
    obtain ⟨cs, hcs, rfl⟩ := hv
    obtain ⟨l1, l2⟩ := opds_rel (M := M) (ρ := ρ) (β := β) (hp := st.hp) (a := a) parts.toList ps hps fun t _ => hE t
    obtain ⟨c, hu, hr⟩ := build_rel (w := w) (us := parts.map fun (i, x) => (i, a.eval x)) hcs (by simpa using l1) (by simpa using l2)
    exact post_of hR (u := .agg c) (by simp [execOp, ho, hu]) (.inr hr)
  | buildSlice t len parts =>
    rw [ho] at h
    simp only [Option.bind_eq_some_iff] at h
    obtain ⟨⟨el, te⟩, he, ps, hps, h⟩ := h
    simp only at h
    split at h
    · rename_i hc
      obtain ⟨hpos, hlen, hsz⟩ := hc
      simp only [Option.bind_eq_some_iff] at h
      obtain ⟨rows, hrows, h⟩ := h
      obtain ⟨l1, l2⟩ := opds_rel (M := M) (ρ := ρ) (β := β) (hp := st.hp) (a := a) parts.toList ps hps fun t _ => hE t
      obtain ⟨c, hu, hcs, hrl, hrow, hone, hrows'⟩ := buildSlice_rel (w := w) (us := parts.map fun (i, x) => (i, a.eval x)) he hrows ⟨hlen, hsz⟩ (by simpa using l1) (by simpa using l2)
      refine .value (u := .slice (some ⟨w.heap.size, 0, none⟩) len len) (w' := w.alloc (.cells c el)) (by simp [execOp, ho, hu]) ?_
      cases hvt : cfg.virt.contains (o.dst.getD 0) with
      | true =>
        rw [hvt] at h
        cases h
        obtain ⟨hR', hM'⟩ := hR.frozen (.cells c el (0, 0))
        refine ⟨_, ρ, β, hM', Ext.refl _ _, hR', .inr ?_, ⟨rfl, rfl, rfl, by simp, Nat.le_refl _⟩, .inl rfl⟩
        rw [← hrl]
        refine .vs (upd_same _ _ _) hone (Nat.le_refl _) hrow (by rw [hcs, hrl]; omega) fun i row j x u h1 h2 h3 => (hrows' i row j x u h1 h2 (by simpa using h3)).mono hM' (Ext.refl _ _)
      | false =>
        rw [hvt] at h
        cases h
        have hR' := hR.snoc ⟨el, te.size, rows⟩ c hpos (by rw [hcs, hrl]; exact Nat.le_refl _) hrow hone hrows'
        refine ⟨M, _, β, SubM.refl _, Ext.snoc _ _, hR', .inr ?_, ⟨rfl, rfl, rfl, by simp, Nat.le_refl _⟩, .inl rfl⟩
        exact .sl (b := ⟨el, te.size, rows⟩) (l := ⟨w.heap.size, c.size⟩) (by simp) (upd_same _ _ _) (by rw [hrl]; exact Nat.le_refl _) rfl fun _ => ⟨0, len, rfl, Nat.le_refl _, fun _ => by simp, fun _ => by simp [hcs]⟩
    · cases h
  | load t p =>
    rw [ho] at h
    simp only [Option.bind_eq_some_iff] at h
    obtain ⟨vp, hp, h⟩ := h
    obtain ⟨v, hv, rfl⟩ := val_some h
    obtain ⟨u, hu, hr⟩ := loadA_rel hR hv (op1 hp)
    exact post_of hR (u := u) (by simp [execOp, ho, hu]) (.inr hr)
  | store t p x =>
    rw [ho] at h
    simp only [Option.bind_eq_some_iff] at h
    obtain ⟨vp, hp, vx, hx, h⟩ := h
    obtain ⟨w', hu, hr⟩ := storeA_rel hR h (op1 hp) (op1 hx) o.dst
    exact .skip (w' := w') (by simp [execOp, ho, hu]) hr
  | nilCheck x =>
    rw [ho] at h
    simp only [Option.bind_eq_some_iff] at h
    obtain ⟨v, hv, h⟩ := h
    have hr := op1 hv
    split at h
    · cases h
      obtain ⟨g, hg, he⟩ := hr.lptr_inv
      exact post_of hR (u := a.eval x) (by simp [execOp, ho, he]) hr
    · cases h
      refine post_of hR (u := a.eval x) ?_ hr
      generalize hvx : a.eval x = v at hr
      cases hr.v (fun _ _ e => by cases e)
      simp [execOp, ho, hvx]
    · simp only [Option.map_eq_some_iff] at h
      obtain ⟨b, hb, rfl⟩ := h
      refine post_of hR (u := a.eval x) ?_ hr
      obtain ⟨hb1, hb2⟩ := fresh_some hb
      generalize hvx : a.eval x = v at hr
      cases hr.v (fun _ _ e => by cases e) with
      | @ptr _ _ _ _ _ b' pl hb' hl hle _ hpt =>
        rw [hb1] at hb'
        cases hb'
        rw [hpt hb2] at hvx ⊢
        simp [execOp, ho, hvx]
    · cases h
      refine post_of hR (u := a.eval x) ?_ hr
      generalize hvx : a.eval x = v at hr
      cases hr.v (fun _ _ e => by cases e)
      simp [execOp, ho, hvx]
    · cases h
  | binOp op t x y z =>
    rw [ho] at h
    simp only [Option.bind_eq_some_iff] at h
    obtain ⟨vx, hx, vy, hy, h⟩ := h
    obtain ⟨v, hv, rfl⟩ := val_some h
    have hvx : vx.noL = true := by unfold binH at hv; split at hv <;> first | rfl | (unfold binT at hv; split at hv <;> first | rfl | (unfold binA at hv; split at hv <;> first | rfl | cases hv))
    have hvy : vy.noL = true := by unfold binH at hv; split at hv <;> first | rfl | (unfold binT at hv; split at hv <;> first | rfl | (unfold binA at hv; split at hv <;> first | rfl | cases hv))
    obtain ⟨u, hu, hr⟩ := binH_rel (P := P) (w := w) (t := t) (ox := x) (oy := y) hv (fun ls hls => by
      simp only [Option.bind_eq_some_iff] at hls
      obtain ⟨ti, hti, hl⟩ := hls
      obtain ⟨i, z, d, hi, hz, hzc, hzl, htd, hsz, hby, hd, hlf⟩ := tiOf_some hti
      exact hlf ls hl) (fun ti hti hd => by
      obtain ⟨i, z, d, hi, hz, hzc, hzl, htd, hsz, hby, hd', hlf⟩ := tiOf_some hti
      obtain ⟨_, _, hbl, _⟩ := tyOf_eq (P := P) (t := t)
      exact hbl (by rw [← htd]; exact hd)) (fun ti e hti hd => by
      obtain ⟨i, z, d, hi, hz, hzc, hzl, htd, hsz, hby, hd', hlf⟩ := tiOf_some hti
      obtain ⟨_, _, _, hsl, _⟩ := tyOf_eq (P := P) (t := t)
      exact hsl e (by rw [← htd]; exact hd)) ((op1 hx).noL hvx) ((op1 hy).noL hvy)
    exact post_of hR (u := u) (by simp only [execOp, ho]; rw [Sem.run_bind, hu]; simp) (.inr hr)
  | unOp op t x =>
    rw [ho] at h
    simp only [Option.bind_eq_some_iff] at h
    obtain ⟨vx, hx, h⟩ := h
    obtain ⟨v, hv, rfl⟩ := val_some h
    have hvx : vx.noL = true := by unfold unA at hv; split at hv <;> first | rfl | cases hv
    obtain ⟨u, hu, hr⟩ := un_rel (P := P) (w := w) hv ((op1 hx).noL hvx)
    exact post_of hR (u := u) (by simp [execOp, ho, hu]) (.inr hr)
  | convert s d x =>
    rw [ho] at h
    simp only [Option.bind_eq_some_iff] at h
    obtain ⟨vx, hx, h⟩ := h
    obtain ⟨v, hv, rfl⟩ := val_some h
    obtain ⟨u, hu, hr⟩ := conv_rel hR hv (op1 hx)
    exact post_of hR (u := u) (by simp [execOp, ho, hu]) (.inr hr)
  | makeFunc fn first captured =>
    rw [ho] at h
    cases fn with
    | func f =>
      simp only at h
      split at h
      · rename_i hf
        simp only [Option.bind_eq_some_iff] at h
        obtain ⟨vs, hvs, h⟩ := h
        cases hL : allNoL vs with
        | false => rw [hL] at h; cases h
        | true =>
          rw [hL] at h
          cases h
          obtain ⟨h1, h2⟩ := args_vals (M := M) (ρ := ρ) (β := β) (hp := st.hp) (a := a) hvs fun t _ => hE t
          have hf0 : first = #[] := by simpa using hf
          refine post_of hR (u := .func (.func f) #[] (captured.map a.eval)) (by simp [execOp, ho, Instr.makeFunc, hf0]) (.inr (.fn h1 fun j x u hx hu => (h2 j x u hx hu).noL (allNoL_get vs hL j x hx)))
      · cases h
    | _ => cases h
  | makeSlice t l c =>
    rw [ho] at h
    simp only [Option.bind_eq_some_iff] at h
    obtain ⟨⟨el, te⟩, he, vl, hl, vc, hc, h⟩ := h
    have hl' := op1 hl
    have hc' := op1 hc
    split at h
    · rename_i n m
      simp only at h
      split at h
      · rename_i hcnd
        obtain ⟨hpos, hb, h0, rfl, hn⟩ := hcnd
        cases h
        obtain ⟨c', hu, hcs, hone, hrow, hrows⟩ := makeSlice_rel (M := M) (ρ := ρ) (hp := st.hp) (w := w) he hpos hb h0 hn
        refine .value (u := .slice (some ⟨w.heap.size, 0, none⟩) n.toNat n.toNat) (w' := w.alloc (.cells c' el)) (by simp [execOp, ho, hl'.int_inv, hc'.int_inv, hu]) ?_
        have hR' := hR.snoc ⟨el, te.size, List.replicate n.toNat te.zero⟩ c' hpos (by rw [hcs]; simp) hrow hone hrows
        refine ⟨M, _, β, SubM.refl _, Ext.snoc _ _, hR', .inr ?_, ⟨rfl, rfl, rfl, by simp, Nat.le_refl _⟩, .inl rfl⟩
        exact .sl (b := ⟨el, te.size, List.replicate n.toNat te.zero⟩) (l := ⟨w.heap.size, c'.size⟩) (by simp) (upd_same _ _ _) (by simp) rfl fun _ => ⟨0, n.toNat, rfl, Nat.le_refl _, fun _ => by simp, fun _ => by simp [hcs]⟩
      · cases h
    · cases h
  | slice t x lo hi mx =>
    rw [ho] at h
    simp only [Option.bind_eq_some_iff] at h
    obtain ⟨vx, hx, l1, hl1, l2, hl2, l3, hl3, h⟩ := h
    obtain ⟨v, hv, rfl⟩ := val_some h
    obtain ⟨u, hu, hr⟩ := slice_rel (w := w) hv (op1 hx) (optI_rel (a := a) hl1 fun t _ => hE t) (optI_rel (a := a) hl2 fun t _ => hE t) (optI_rel (a := a) hl3 fun t _ => hE t)
    exact post_of hR (u := u) (by simp [execOp, ho, hu]) (.inr hr)
  | fieldAddr s x f =>
    rw [ho] at h
    simp only [Option.bind_eq_some_iff] at h
    obtain ⟨vx, hx, h⟩ := h
    obtain ⟨v, hv, rfl⟩ := val_some h
    obtain ⟨u, hu, hr⟩ := fieldAddr_rel (w := w) hv (op1 hx)
    exact post_of hR (u := u) (by simp [execOp, ho, hu]) hr
  | field s x f =>
    rw [ho] at h
    simp only [Option.bind_eq_some_iff] at h
    obtain ⟨vx, hx, h⟩ := h
    obtain ⟨v, hv, rfl⟩ := val_some h
    obtain ⟨u, hu, hr⟩ := field_rel (w := w) hv (op1 hx)
    exact post_of hR (u := u) (by simp [execOp, ho, hu]) (.inr hr)
  | indexAddr t x i =>
    rw [ho] at h
    simp only [Option.bind_eq_some_iff] at h
    obtain ⟨vx, hx, vi, hi, h⟩ := h
    obtain ⟨v, hv, rfl⟩ := val_some h
    obtain ⟨u, hu, hr⟩ := indexAddr_rel (w := w) hv (op1 hx) (op1 hi)
    exact post_of hR (u := u) (by simp [execOp, ho, hu]) hr
  | index t x i =>
    rw [ho] at h
    simp only [Option.bind_eq_some_iff] at h
    obtain ⟨vx, hx, vi, hi, h⟩ := h
    obtain ⟨v, hv, rfl⟩ := val_some h
    obtain ⟨u, hu, hr⟩ := index_rel (w := w) hv (op1 hx) (op1 hi)
    exact post_of hR (u := u) (by simp [execOp, ho, hu]) (.inr hr)
  | extract x i =>
    rw [ho] at h
    simp only [Option.bind_eq_some_iff] at h
    obtain ⟨vx, hx, h⟩ := h
    split at h
    · rename_i vs
      obtain ⟨v, hv, rfl⟩ := val_some h
      have hr := op1 hx
      generalize hvx : a.eval x = u at hr
      cases hr.v (fun _ _ e => by cases e) with
      | @tup _ c hs hrel =>
        have hlt : i < c.size := by rw [hs]; exact (List.getElem?_eq_some_iff.1 hv).1
        exact post_of hR (u := c[i]) (by simp [execOp, ho, hvx, Instr.extract, hlt]) (.inr (hrel i v _ hv (by simp [hlt])))
    · cases h
  | call c =>
    rw [ho] at h
    simp only [Option.bind_eq_some_iff] at h
    obtain ⟨vs, hvs, h⟩ := h
    obtain ⟨h1, h2⟩ := args_vals (M := M) (ρ := ρ) (β := β) (hp := st.hp) (a := a) hvs fun t _ => hE t
    split at h
    · rename_i f hc
      refine call_sound hrec hR h h1 h2 fun fn hf hb hn => ?_
      have := run_callFunc (xs := #[] ++ c.args.map a.eval ++ #[]) (w := w) hf hb hn
      simp only [execOp, ho, resolve, hc, Act.eval, Deferred.ofValue, Sem.run_bind, Sem.run_pure, Result.andThen_ok, invoke]
      simpa using this
    · rename_i x _ hc
      simp only [Option.bind_eq_some_iff] at h
      obtain ⟨v, hv, h⟩ := h
      have hr := op1 hv
      split at h
      · rename_i f caps
        generalize hvx : a.eval x = u at hr
        cases hr.v (fun _ _ e => by cases e) with
        | @fn _ _ cc hs hrel =>
          refine call_sound hrec hR h (xs := c.args.map a.eval ++ cc) (by simp [hs]; simpa using h1) (fun j x u hx hu => ?_) fun fn hf hb hn => ?_
          · by_cases hj : j < vs.length
            · rw [List.getElem?_append_left hj] at hx
              rw [Array.getElem?_append_left (by rw [h1]; exact hj)] at hu
              exact h2 j x u hx hu
            · rw [List.getElem?_append_right (by omega)] at hx
              rw [Array.getElem?_append_right (by rw [h1]; omega), h1] at hu
              exact .inr (hrel _ x u hx hu)
          · have := run_callFunc (xs := #[] ++ c.args.map a.eval ++ cc) (w := w) hf hb hn
            simp only [execOp, ho, resolve, hc, hvx, Deferred.ofValue, Sem.run_bind, Sem.run_pure, Result.andThen_ok, invoke]
            simpa using this
      · cases h
    · rename_i b hc
      exact builtin_sound hR ho hc h h1 h2
    · cases h
  | _ => rw [ho] at h; cases h

end
end Go.Proofs.Ythbmlioknnhleaa.Abs

/- The abstract machine: what an operation does hangs on what it looks at alone. -/
namespace Go.Proofs.Ythbmlioknnhleaa.Abs
open Go

section
variable {T : Nat → Option TI} {rec : Rec} {cfg : Cfg} {st st' : St} {o : Oper} {e : Eff}

theorem args_ag {env env' : List (Nat × AV)} : ∀ (l : List Operand), (∀ x ∈ l, opd env' x = opd env x) → args env' l = args env l
  | [], _ => rfl
  | x :: l, h => by simp only [args, h x (by simp), args_ag l fun y hy => h y (by simp [hy])]

theorem opds_ag {env env' : List (Nat × AV)} : ∀ (l : List (Nat × Operand)), (∀ x ∈ l.map (·.2), opd env' x = opd env x) → opds env' l = opds env l
  | [], _ => rfl
  | (i, x) :: l, h => by simp only [opds, h x (by simp), opds_ag l fun y hy => h y (by simp at hy ⊢; exact .inr hy)]

theorem optI_ag {env env' : List (Nat × AV)} (x : Option Operand) (h : ∀ y, x = some y → opd env' y = opd env y) : optI env' x = optI env x := by
  cases x with
  | none => rfl
  | some y => simp only [optI, h y rfl]

theorem builtinA_ag (hh : st'.hp = st.hp) (hn : st'.n0 = st.n0) (b : Builtin) (tys : List Nat) (vs : List AV) : builtinA T st' b tys vs = builtinA T st b tys vs := by
  unfold builtinA
  rw [hh, hn]

theorem storeA_lo {lo lo' : List (Nat × List AV)} {hp : List Blk} {n0 ty : Nat} {p v : AV} (hl : ∀ d c, p = .lptr d c → ∀ r, lo.lookup d = some r → lo'.lookup d = some r) (h : storeA T lo hp n0 ty p v = some e) : storeA T lo' hp n0 ty p v = some e := by
  unfold storeA at h ⊢
  split at h
  · split at h
    · rename_i hc
      simp only [hc, and_self, if_true]
      split at h
      · rename_i d c
        split at h
        · rename_i row hrow
          rw [hl d c rfl row hrow]
          exact h
        · cases h
      · exact h
      · cases h
    · cases h
  · cases h

theorem loadA_lo {lo lo' : List (Nat × List AV)} {hp : List Blk} {ty : Nat} {p v : AV} (hl : ∀ d c, p = .lptr d c → ∀ r, lo.lookup d = some r → lo'.lookup d = some r) (h : loadA T lo hp ty p = some v) : loadA T lo' hp ty p = some v := by
  cases p with
  | lptr d c =>
    simp only [loadA, rowAt, Option.bind_eq_some_iff, Option.map_eq_some_iff] at h ⊢
    obtain ⟨x, ⟨r, hr, hx⟩, h⟩ := h
    exact ⟨x, ⟨r, hl d c rfl r hr, hx⟩, h⟩
  | _ => exact h

/-- the slots and the variables may be others, where nobody looks -/
theorem eff_ag1 (op : ∀ x ∈ o.op.operands.toList, opd st'.env x = opd st.env x) (hl : ∀ x ∈ o.op.operands.toList, ∀ d c, opd st.env x = some (.lptr d c) → ∀ r, st.lo.lookup d = some r → st'.lo.lookup d = some r)
    (hh : st'.hp = st.hp) (hn : st'.n0 = st.n0) (h : eff T rec cfg o st = some e) : eff T rec cfg o st' = some e := by
  unfold eff at h ⊢
  cases ho : o.op with
  | load t p =>
    rw [ho] at h
    have hp := op p (by simp [ho, Op.operands])
    simp only [Option.bind_eq_some_iff] at h ⊢
    obtain ⟨vp, h1, h2⟩ := h
    refine ⟨vp, by rw [hp]; exact h1, ?_⟩
    unfold val at h2 ⊢
    simp only [Option.map_eq_some_iff] at h2 ⊢
    obtain ⟨v, hv, rfl⟩ := h2
    exact ⟨v, by rw [hh]; exact loadA_lo (fun d c hd => hl p (by simp [ho, Op.operands]) d c (by rw [h1, hd])) hv, rfl⟩
  | store t p x =>
    rw [ho] at h
    have hp := op p (by simp [ho, Op.operands])
    have hx := op x (by simp [ho, Op.operands])
    simp only [Option.bind_eq_some_iff] at h ⊢
    obtain ⟨vp, h1, vx, h2, h3⟩ := h
    exact ⟨vp, by rw [hp]; exact h1, vx, by rw [hx]; exact h2, by rw [hh, hn]; exact storeA_lo (fun d c hd => hl p (by simp [ho, Op.operands]) d c (by rw [h1, hd])) h3⟩
  | build t parts =>
    rw [ho] at h
    simp only at h ⊢
    rw [opds_ag parts.toList fun x hx => op x (by simpa [ho, Op.operands] using hx)]
    exact h
  | buildSlice t n parts =>
    rw [ho] at h
    simp only at h ⊢
    rw [opds_ag parts.toList fun x hx => op x (by simpa [ho, Op.operands] using hx), hh]
    exact h
  | makeFunc fn first captured =>
    rw [ho] at h
    simp only at h ⊢
    rw [args_ag captured.toList fun x hx => op x (by simp only [ho, Op.operands, Array.toList_append, List.mem_append]; exact .inr hx)]
    exact h
  | slice t x l u m =>
    rw [ho] at h
    simp only at h ⊢
    have hx := op x (by simp [ho, Op.operands])
    rw [hx, optI_ag l fun y hy => op y (by simp [ho, Op.operands, hy]), optI_ag u fun y hy => op y (by simp [ho, Op.operands, hy]), optI_ag m fun y hy => op y (by simp [ho, Op.operands, hy]), hh]
    exact h
  | call c =>
    rw [ho] at h
    simp only at h ⊢
    rw [args_ag c.args.toList fun x hx => op x (by simp only [ho, Op.operands, Call.operands, Array.toList_append, List.mem_append]; exact .inr hx), hh, hn]
    cases hc : c.callee with
    | builtin b =>
      rw [hc] at h
      simp only [builtinA_ag hh hn]
      exact h
    | value x =>
      have hx := op x (by simp [ho, Op.operands, Call.operands, hc])
      rw [hc] at h
      cases x with
      | func f => exact h
      | _ => simp only [hx]; exact h
    | _ => rw [hc] at h; exact h
  | move x => rw [ho] at h; have hx := op x (by simp [ho, Op.operands]); simp only [hx]; exact h
  | assign x => rw [ho] at h; have hx := op x (by simp [ho, Op.operands]); simp only [hx]; exact h
  | pick c x y =>
    rw [ho] at h
    have h1 := op c (by simp [ho, Op.operands]); have h2 := op x (by simp [ho, Op.operands]); have h3 := op y (by simp [ho, Op.operands])
    simp only [h1, h2, h3]; exact h
  | alloc t => rw [ho] at h; simp only [hh]; exact h
  | box t x => rw [ho] at h; have hx := op x (by simp [ho, Op.operands]); simp only [hx, hh]; exact h
  | nilCheck x => rw [ho] at h; have hx := op x (by simp [ho, Op.operands]); simp only [hx, hh]; exact h
  | unOp p t x => rw [ho] at h; have hx := op x (by simp [ho, Op.operands]); simp only [hx]; exact h
  | convert s t x => rw [ho] at h; have hx := op x (by simp [ho, Op.operands]); simp only [hx, hh]; exact h
  | fieldAddr s x f => rw [ho] at h; have hx := op x (by simp [ho, Op.operands]); simp only [hx, hh]; exact h
  | field s x f => rw [ho] at h; have hx := op x (by simp [ho, Op.operands]); simp only [hx]; exact h
  | extract x i => rw [ho] at h; have hx := op x (by simp [ho, Op.operands]); simp only [hx]; exact h
  | binOp p t x y z => rw [ho] at h; have hx := op x (by simp [ho, Op.operands]); have hy := op y (by simp [ho, Op.operands]); simp only [hx, hy, hh]; exact h
  | makeSlice t x y => rw [ho] at h; have hx := op x (by simp [ho, Op.operands]); have hy := op y (by simp [ho, Op.operands]); simp only [hx, hy, hh]; exact h
  | indexAddr t x y => rw [ho] at h; have hx := op x (by simp [ho, Op.operands]); have hy := op y (by simp [ho, Op.operands]); simp only [hx, hy, hh]; exact h
  | index t x y => rw [ho] at h; have hx := op x (by simp [ho, Op.operands]); have hy := op y (by simp [ho, Op.operands]); simp only [hx, hy]; exact h
  | _ => rw [ho] at h; cases h

/-! ### another heap -/
def Ag (hp hp' : List Blk) (v : AV) : Prop := ∀ k, Loc.hp k ∈ locH v → hp'[k]? = hp[k]?

theorem rowAt_ag {hp hp' : List Blk} {lo : List (Nat × List AV)} {v : AV} (h : Ag hp hp' v) : rowAt lo hp' v = rowAt lo hp v := by
  cases v with
  | ptr k r c t => have hk := h k (by simp [locH]); simp only [rowAt, fresh, hk]
  | _ => rfl
theorem sliceA_ag {hp hp' : List Blk} {v : AV} (h : Ag hp hp' v) (t : Nat) (l u m : Option Int) : sliceA T hp' t v l u m = sliceA T hp t v l u m := by
  cases v with
  | ptr k r c t => have hk := h k (by simp [locH]); simp only [sliceA, fresh, hk]
  | sl k r n t => have hk := h k (by simp [locH]); simp only [sliceA, fresh, hk]
  | _ => rfl
theorem lenA_ag {hp hp' : List Blk} {v : AV} (h : Ag hp hp' v) (t : Nat) : lenA T hp' t v = lenA T hp t v := by
  cases v with
  | ssl k r c n t => have hk := h k (by simp [locH]); simp only [lenA, fresh, hk]
  | sl k r n t => have hk := h k (by simp [locH]); simp only [lenA, fresh, hk]
  | _ => rfl
theorem indexAddrA_ag {hp hp' : List Blk} {v : AV} (h : Ag hp hp' v) (t : Nat) (i : AV) : indexAddrA T hp' t v i = indexAddrA T hp t v i := by
  cases v with
  | ptr k r c t => have hk := h k (by simp [locH]); simp only [indexAddrA, fresh, hk]
  | ssl k r c n t => have hk := h k (by simp [locH]); simp only [indexAddrA, fresh, hk]
  | sl k r n t => have hk := h k (by simp [locH]); simp only [indexAddrA, fresh, hk]
  | _ => rfl
theorem fieldAddrA_ag {hp hp' : List Blk} {v : AV} (h : Ag hp hp' v) (t f : Nat) : fieldAddrA T hp' t v f = fieldAddrA T hp t v f := by
  cases v with
  | ptr k r c t => have hk := h k (by simp [locH]); simp only [fieldAddrA, fresh, hk]
  | _ => rfl
theorem rowsA_ag {hp hp' : List Blk} {v : AV} (h : Ag hp hp' v) (n : Nat) : rowsA hp' n v = rowsA hp n v := by
  cases v with
  | sl k r n t => have hk := h k (by simp [locH]); simp only [rowsA, fresh, hk]
  | _ => rfl
theorem convA_ag {hp hp' : List Blk} {v : AV} (h : Ag hp hp' v) (s t : Nat) : convA T hp' s t v = convA T hp s t v := by
  cases v with
  | sl k r n t => have hk := h k (by simp [locH]); simp only [convA, rowsA, fresh, hk]
  | _ => rfl

theorem binH_ag {ti : Option TI} {hp hp' : List Blk} {v : AV} (h : Ag hp hp' v) (op : BinOp) (y : AV) : binH ti hp' op v y = binH ti hp op v y := by
  cases v with
  | sl k r n t => have hk := h k (by simp [locH]); cases y <;> simp only [binH, fresh, hk]
  | _ => rfl

theorem varA_ag {esc : Bool} {hp hp' : List Blk} {dst : Option Nat} {ty : Nat} {cs : List AV} (h : varA esc hp dst ty cs = some e) (hn : e.hp = none) : varA esc hp' dst ty cs = some e := by
  unfold varA at h ⊢
  split at h
  · cases esc with
    | true =>
      simp only [cond_true] at h
      split at h
      · cases h; cases hn
      · cases h
    | false => exact h
  · cases h
theorem appendA_ag {hp hp' : List Blk} {n0 el : Nat} {te : TI} {s : AV} {new : List (List AV)} (h : appendA hp n0 el te s new = some e) (hn : e.hp = none) : appendA hp' n0 el te s new = some e := by
  cases s with
  | nilsl =>
    cases new with
    | nil => exact h
    | cons r rs =>
      simp only [appendA] at h
      split at h
      · cases h; cases hn
      · cases h
  | esl =>
    cases new with
    | nil => exact h
    | cons r rs =>
      simp only [appendA] at h
      split at h
      · cases h; cases hn
      · cases h
  | sl k r n t =>
    cases r with
    | zero =>
      simp only [appendA] at h
      split at h
      · split at h
        · split at h
          · cases h; cases hn
          · split at h
            · cases h; cases hn
            · cases h
        · cases h
      · cases h
    | succ r => cases h
  | _ => cases h
theorem clearA_ag {hp hp' : List Blk} {n0 : Nat} {z : List AV} {x : AV} (h : clearA hp n0 z x = some e) (hn : e.hp = none) : clearA hp' n0 z x = some e := by
  cases x with
  | sl k r n t =>
    simp only [clearA, Option.bind_eq_some_iff] at h
    obtain ⟨b, hb, h⟩ := h
    split at h
    · cases h; cases hn
    · cases h
  | _ => exact h
theorem storeA_ag {lo : List (Nat × List AV)} {hp hp' : List Blk} {n0 ty : Nat} {p v : AV} (h : storeA T lo hp n0 ty p v = some e) (hn : e.hp = none) : storeA T lo hp' n0 ty p v = some e := by
  unfold storeA at h ⊢
  split at h
  · split at h
    · rename_i hc
      simp only [hc, and_self, if_true]
      split at h
      · exact h
      · split at h
        · split at h
          · split at h
            · cases h; cases hn
            · cases h
          · cases h
        · cases h
      · cases h
    · cases h
  · cases h

theorem args_get {env : List (Nat × AV)} : ∀ (l : List Operand) (vs : List AV), args env l = some vs → ∀ v ∈ vs, ∃ x ∈ l, opd env x = some v
  | [], vs, h, v, hv => by simp only [args, Option.some.injEq] at h; subst h; cases hv
  | x :: l, vs, h, v, hv => by
    simp only [args] at h
    split at h
    · rename_i u us hu hus
      cases h
      rcases List.mem_cons.1 hv with rfl | hv
      · exact ⟨x, by simp, hu⟩
      · obtain ⟨y, hy, h⟩ := args_get l us hus v hv
        exact ⟨y, by simp [hy], h⟩
    · cases h

/-- the heap may be another, where nobody looks -/
theorem eff_ag2 {hp' : List Blk} (hc : isCallFn o.op = false) (hn : e.hp = none) (ag : ∀ x ∈ looksH o.op, ∀ v, opd st.env x = some v → Ag st.hp hp' v) (h : eff T rec cfg o st = some e) : eff T rec cfg o { st with hp := hp' } = some e := by
  unfold eff at h ⊢
  cases ho : o.op with
  | load t p =>
    rw [ho] at h
    simp only [Option.bind_eq_some_iff] at h ⊢
    obtain ⟨vp, h1, h2⟩ := h
    exact ⟨vp, h1, by unfold loadA at h2 ⊢; rw [rowAt_ag (ag p (by simp [ho, looksH]) vp h1)]; exact h2⟩
  | store t p x =>
    rw [ho] at h
    simp only [Option.bind_eq_some_iff] at h ⊢
    obtain ⟨vp, h1, vx, h2, h3⟩ := h
    exact ⟨vp, h1, vx, h2, storeA_ag h3 hn⟩
  | alloc t =>
    rw [ho] at h
    simp only [Option.bind_eq_some_iff] at h ⊢
    obtain ⟨ti, h1, h2⟩ := h
    exact ⟨ti, h1, varA_ag h2 hn⟩
  | box t x =>
    rw [ho] at h
    simp only [Option.bind_eq_some_iff] at h ⊢
    obtain ⟨ti, h1, v, h2, h3⟩ := h
    refine ⟨ti, h1, v, h2, ?_⟩
    split at h3
    · rename_i hcnd
      rw [if_pos hcnd]
      exact varA_ag h3 hn
    · cases h3
  | buildSlice t n parts =>
    rw [ho] at h
    simp only [Option.bind_eq_some_iff] at h ⊢
    obtain ⟨el, h1, ps, h2, h3⟩ := h
    refine ⟨el, h1, ps, h2, ?_⟩
    obtain ⟨el, te⟩ := el
    simp only at h3 ⊢
    split at h3
    · rename_i hcnd
      rw [if_pos hcnd]
      simp only [Option.bind_eq_some_iff] at h3 ⊢
      obtain ⟨rows, hr, h3⟩ := h3
      refine ⟨rows, hr, ?_⟩
      cases hv : cfg.virt.contains (o.dst.getD 0) with
      | true => rw [hv] at h3; exact h3
      | false => rw [hv] at h3; cases h3; cases hn
    · cases h3
  | makeSlice t l c =>
    rw [ho] at h
    simp only [Option.bind_eq_some_iff] at h
    obtain ⟨el, h1, vl, h2, vc, h3, h4⟩ := h
    split at h4
    · split at h4
      · cases h4; cases hn
      · cases h4
    · cases h4
  | binOp op t x y z =>
    rw [ho] at h
    simp only [Option.bind_eq_some_iff] at h ⊢
    obtain ⟨vx, h1, vy, h2, h3⟩ := h
    exact ⟨vx, h1, vy, h2, by rw [binH_ag (ag x (by simp [ho, looksH]) vx h1)]; exact h3⟩
  | slice t x l u m =>
    rw [ho] at h
    simp only [Option.bind_eq_some_iff] at h ⊢
    obtain ⟨vx, h1, h2⟩ := h
    exact ⟨vx, h1, by simp only [sliceA_ag (ag x (by simp [ho, looksH]) vx h1)]; exact h2⟩
  | nilCheck x =>
    rw [ho] at h
    simp only [Option.bind_eq_some_iff] at h ⊢
    obtain ⟨vx, h1, h2⟩ := h
    refine ⟨vx, h1, ?_⟩
    have hag := ag x (by simp [ho, looksH]) vx h1
    cases vx with
    | ptr k r c t => have hk := hag k (by simp [locH]); simp only [fresh, hk]; exact h2
    | _ => exact h2
  | convert s t x =>
    rw [ho] at h
    simp only [Option.bind_eq_some_iff] at h ⊢
    obtain ⟨vx, h1, h2⟩ := h
    exact ⟨vx, h1, by rw [convA_ag (ag x (by simp [ho, looksH]) vx h1)]; exact h2⟩
  | fieldAddr s x f =>
    rw [ho] at h
    simp only [Option.bind_eq_some_iff] at h ⊢
    obtain ⟨vx, h1, h2⟩ := h
    exact ⟨vx, h1, by rw [fieldAddrA_ag (ag x (by simp [ho, looksH]) vx h1)]; exact h2⟩
  | indexAddr t x i =>
    rw [ho] at h
    simp only [Option.bind_eq_some_iff] at h ⊢
    obtain ⟨vx, h1, vi, h2, h3⟩ := h
    exact ⟨vx, h1, vi, h2, by rw [indexAddrA_ag (ag x (by simp [ho, looksH]) vx h1)]; exact h3⟩
  | call c =>
    rw [ho] at h
    simp only [Option.bind_eq_some_iff] at h ⊢
    obtain ⟨vs, hvs, h⟩ := h
    refine ⟨vs, hvs, ?_⟩
    have agv : ∀ v ∈ vs, Ag st.hp hp' v := fun v hv => by
      obtain ⟨x, hx, hxv⟩ := args_get _ _ hvs v hv
      exact ag x (by simpa [ho, looksH] using hx) v hxv
    cases hcc : c.callee with
    | builtin b =>
      rw [hcc] at h
      simp only at h ⊢
      unfold builtinA at h ⊢
      split at h
      · simp only [lenA_ag (agv _ (List.mem_cons_self))]; exact h
      · exact h
      · simp only [Option.bind_eq_some_iff] at h ⊢
        obtain ⟨el, h1, h⟩ := h
        refine ⟨el, h1, ?_⟩
        obtain ⟨el, te⟩ := el
        simp only at h ⊢
        split at h
        · rename_i hcnd
          rw [if_pos hcnd]
          rename_i ty ty2 s x _
          cases hi : isInt T ty2 with
          | true =>
            rw [hi] at h
            simp only [cond_true] at h ⊢
            split at h
            · split at h
              · rename_i hn0
                simp only [hn0, and_self, if_true]
                exact appendA_ag h hn
              · cases h
            · cases h
          | false =>
            rw [hi] at h
            simp only [cond_false] at h ⊢
            cases hs : isSrc T ty2 with
            | false => rw [hs] at h; cases h
            | true =>
              rw [hs] at h
              simp only [cond_true, Option.bind_eq_some_iff] at h ⊢
              obtain ⟨new, h2, h⟩ := h
              exact ⟨new, by rw [rowsA_ag (agv x (by simp))]; exact h2, appendA_ag h hn⟩
        · cases h
      · simp only [Option.bind_eq_some_iff] at h ⊢
        obtain ⟨el, h1, h⟩ := h
        exact ⟨el, h1, clearA_ag h hn⟩
      · exact h
      · exact h
      · cases h
    | _ => simp [isCallFn, callFn, ho, hcc] at hc
  | _ => rw [ho] at h; exact h

end
end Go.Proofs.Ythbmlioknnhleaa.Abs

/- The abstract machine: what an operation, code and a call leave alone in the heap. -/
namespace Go.Proofs.Ythbmlioknnhleaa.Abs
open Go

/-- a call leaves no block away, and where it says that it leaves them alone, it does -/
def Keeps (rec : Rec) : Prop := ∀ (f : Nat) (vs : List AV) (hp : List Blk) (v : AV) (hp' : List Blk) (c : Nat), rec f vs hp = some (v, hp', c) →
  hp.length ≤ hp'.length ∧ c ≤ hp.length ∧ ∀ k, k < c → hp'[k]? = hp[k]?

def Same (hp hp' : List Blk) (S : List Nat) : Prop := hp.length ≤ hp'.length ∧ ∀ k, k < hp.length → k ∉ S → hp'[k]? = hp[k]?
theorem Same.snoc (hp : List Blk) (b : Blk) : Same hp (hp ++ [b]) [] := ⟨by simp, fun k hk _ => List.getElem?_append_left hk⟩
theorem Same.set (hp : List Blk) (k : Nat) (b : Blk) : Same hp (hp.set k b) [k] := ⟨by simp, fun i _ hi => List.getElem?_set_ne (fun e => hi (by simp [e]))⟩

section
variable {T : Nat → Option TI} {rec : Rec} {cfg : Cfg} {st st' : St} {o : Oper} {e : Eff}

/-- the blocks that may be written -/
def Wrote (st : St) (o : Oper) (e : Eff) (hp' : List Blk) : Prop :=
  (isCallFn o.op = true ∧ st.hp.length ≤ hp'.length ∧ e.low ≤ st.hp.length ∧ (∀ k, k < e.low → hp'[k]? = st.hp[k]?) ∧ (e.cl = true → st.n0 ≤ e.low)) ∨
  (isCallFn o.op = false ∧ ∃ S : List Nat, Same st.hp hp' S ∧ (∀ k ∈ S, ∃ x ∈ writesH o.op, ∃ v, opd st.env x = some v ∧ Loc.hp k ∈ locH v) ∧ (e.cl = true → ∀ k ∈ S, st.n0 ≤ k))

theorem Wrote.none_ {hp' : List Blk} (hc : isCallFn o.op = false) (h : Same st.hp hp' []) : Wrote st o e hp' := .inr ⟨hc, [], h, (fun _ hk => by cases hk), fun _ _ hk => by cases hk⟩
theorem Wrote.one {hp' : List Blk} {k : Nat} {x : Operand} {v : AV} (hc : isCallFn o.op = false) (h : Same st.hp hp' [k]) (hx : x ∈ writesH o.op) (hv : opd st.env x = some v) (hk : Loc.hp k ∈ locH v) (hcl : e.cl = true → st.n0 ≤ k) : Wrote st o e hp' :=
  .inr ⟨hc, [k], h, (fun i hi => by simp at hi; subst hi; exact ⟨x, hx, v, hv, hk⟩), fun h' i hi => by simp at hi; rw [hi]; exact hcl h'⟩

theorem varA_wrote {esc : Bool} {dst : Option Nat} {ty : Nat} {cs : List AV} {hp' : List Blk} (hc : isCallFn o.op = false) (h : varA esc st.hp dst ty cs = some e) (hh : e.hp = some hp') : Wrote st o e hp' := by
  unfold varA at h
  split at h
  · cases esc with
    | true =>
      simp only [cond_true] at h
      split at h
      · cases h; cases hh; exact .none_ hc (Same.snoc _ _)
      · cases h
    | false => cases h; cases hh
  · cases h

theorem eff_wrote {hp' : List Blk} (hk : Keeps rec) (h : eff T rec cfg o st = some e) (hh : e.hp = some hp') : Wrote st o e hp' := by
  have valN : ∀ {x : Option AV}, val x = some e → False := fun hv => by
    unfold val at hv
    simp only [Option.map_eq_some_iff] at hv
    obtain ⟨v, _, rfl⟩ := hv
    cases hh
  unfold eff at h
  cases ho : o.op with
  | alloc t =>
    rw [ho] at h
    simp only [Option.bind_eq_some_iff] at h
    obtain ⟨ti, h1, h2⟩ := h
    exact varA_wrote (by simp [isCallFn, ho]) h2 hh
  | box t x =>
    rw [ho] at h
    simp only [Option.bind_eq_some_iff] at h
    obtain ⟨ti, h1, v, h2, h3⟩ := h
    split at h3
    · exact varA_wrote (by simp [isCallFn, ho]) h3 hh
    · cases h3
  | buildSlice t n parts =>
    rw [ho] at h
    simp only [Option.bind_eq_some_iff] at h
    obtain ⟨el, h1, ps, h2, h3⟩ := h
    split at h3
    · simp only [Option.bind_eq_some_iff] at h3
      obtain ⟨rows, hr, h3⟩ := h3
      cases hv : cfg.virt.contains (o.dst.getD 0) with
      | true => rw [hv] at h3; cases h3; cases hh
      | false => rw [hv] at h3; cases h3; cases hh; exact .none_ (by simp [isCallFn, ho]) (Same.snoc _ _)
    · cases h3
  | makeSlice t l c =>
    rw [ho] at h
    simp only [Option.bind_eq_some_iff] at h
    obtain ⟨el, h1, vl, h2, vc, h3, h4⟩ := h
    split at h4
    · split at h4
      · cases h4; cases hh; exact .none_ (by simp [isCallFn, ho]) (Same.snoc _ _)
      · cases h4
    · cases h4
  | store t p x =>
    rw [ho] at h
    simp only [Option.bind_eq_some_iff] at h
    obtain ⟨vp, h1, vx, h2, h3⟩ := h
    unfold storeA at h3
    split at h3
    · split at h3
      · split at h3
        · split at h3
          · split at h3
            · cases h3; cases hh
            · cases h3
          · cases h3
        · rename_i k r c tt
          split at h3
          · split at h3
            · split at h3
              · cases h3
                cases hh
                exact .one (by simp [isCallFn, ho]) (Same.set _ _ _) (x := p) (by simp [ho, writesH]) h1 (by simp [locH]) (fun hd => by simpa using hd)
              · cases h3
            · cases h3
          · cases h3
        · cases h3
      · cases h3
    · cases h3
  | call c =>
    rw [ho] at h
    simp only [Option.bind_eq_some_iff] at h
    obtain ⟨vs, hvs, h⟩ := h
    have call : ∀ {f : Nat} {ws : List AV}, callFn c = true → callA rec st.hp st.n0 f ws = some e → Wrote st o e hp' := by
      intro f ws hc h
      unfold callA at h
      cases hL : allNoL ws with
      | false => rw [hL] at h; cases h
      | true =>
        rw [hL] at h
        simp only [cond_true, Option.map_eq_some_iff] at h
        obtain ⟨⟨v, hp1, cl⟩, hr, rfl⟩ := h
        cases hh
        obtain ⟨h1, h0, h2⟩ := hk _ _ _ _ _ _ hr
        exact .inl ⟨by simp [isCallFn, ho, hc], h1, h0, h2, fun hd => by simpa using hd⟩
    have first : ∀ {x : AV} {l : List AV}, vs = x :: l → ∃ y, y ∈ writesH o.op ∧ opd st.env y = some x := by
      intro x l hv
      subst hv
      cases hcl : c.args.toList with
      | nil => rw [hcl] at hvs; simp [args] at hvs
      | cons y ys =>
        rw [hcl] at hvs
        simp only [args] at hvs
        split at hvs
        · rename_i u us hu hus
          cases hvs
          exact ⟨y, by simp [ho, writesH, hcl], hu⟩
        · cases hvs
    cases hc : c.callee with
    | value x =>
      rw [hc] at h
      cases x with
      | func f => exact call (by simp [callFn, hc]) h
      | tmp t =>
        simp only [Option.bind_eq_some_iff] at h
        obtain ⟨v, hv, h⟩ := h
        split at h
        · exact call (by simp [callFn, hc]) h
        · cases h
      | const k =>
        simp only [Option.bind_eq_some_iff] at h
        obtain ⟨v, hv, h⟩ := h
        split at h
        · exact call (by simp [callFn, hc]) h
        · cases h
      | global g => simp [opd] at h
    | builtin b =>
      rw [hc] at h
      have hno : isCallFn o.op = false := by simp [isCallFn, ho, callFn, hc]
      simp only at h
      unfold builtinA at h
      split at h
      · exact (valN h).elim
      · simp only [Option.map_eq_some_iff] at h
        obtain ⟨_, _, rfl⟩ := h
        cases hh
      · rename_i ty ty2 s x _
        simp only [Option.bind_eq_some_iff] at h
        obtain ⟨⟨el, te⟩, h1, h⟩ := h
        obtain ⟨y, hy, hyv⟩ := first rfl
        have app : ∀ {new : List (List AV)}, appendA st.hp st.n0 el te s new = some e → Wrote st o e hp' := by
          intro new h
          cases s with
          | nilsl =>
            cases new with
            | nil => cases h; cases hh
            | cons r rs =>
              simp only [appendA] at h
              split at h
              · cases h; cases hh; exact .none_ hno (Same.snoc _ _)
              · cases h
          | esl =>
            cases new with
            | nil => cases h; cases hh
            | cons r rs =>
              simp only [appendA] at h
              split at h
              · cases h; cases hh; exact .none_ hno (Same.snoc _ _)
              · cases h
          | sl k r n t =>
            cases r with
            | zero =>
              simp only [appendA] at h
              split at h
              · split at h
                · split at h
                  · cases h; cases hh; exact .one hno (Same.set _ _ _) hy hyv (by simp [locH]) (fun hd => by simpa using hd)
                  · split at h
                    · cases h; cases hh; exact .one hno (Same.set _ _ _) hy hyv (by simp [locH]) (fun hd => by simpa using hd)
                    · cases h
                · cases h
              · cases h
            | succ r => cases h
          | _ => cases h
        simp only at h
        split at h
        · cases hi : isInt T ty2 with
          | true =>
            rw [hi] at h
            simp only [cond_true] at h
            split at h
            · split at h
              · exact app h
              · cases h
            · cases h
          | false =>
            rw [hi] at h
            simp only [cond_false] at h
            cases hs : isSrc T ty2 with
            | false => rw [hs] at h; cases h
            | true =>
              rw [hs] at h
              simp only [cond_true, Option.bind_eq_some_iff] at h
              obtain ⟨new, h2, h⟩ := h
              exact app h
        · cases h
      · rename_i ty x _
        obtain ⟨y, hy, hyv⟩ := first rfl
        simp only [Option.bind_eq_some_iff] at h
        obtain ⟨el, h1, h⟩ := h
        unfold clearA at h
        split at h
        · cases h; cases hh
        · cases h; cases hh
        · simp only [Option.bind_eq_some_iff] at h
          obtain ⟨b, hb, h⟩ := h
          split at h
          · cases h; cases hh; exact .one hno (Same.set _ _ _) hy hyv (by simp [locH]) (fun hd => by simpa using hd)
          · cases h
        · cases h
      · exact (valN h).elim
      · exact (valN h).elim
      · cases h
    | _ => rw [hc] at h; cases h
  | nilCheck x =>
    rw [ho] at h
    simp only [Option.bind_eq_some_iff] at h
    obtain ⟨vx, h1, h2⟩ := h
    split at h2
    · cases h2; cases hh
    · cases h2; cases hh
    · simp only [Option.map_eq_some_iff] at h2
      obtain ⟨_, _, rfl⟩ := h2
      cases hh
    · cases h2; cases hh
    · cases h2
  | makeFunc fn first captured =>
    rw [ho] at h
    cases fn with
    | func f =>
      simp only at h
      split at h
      · simp only [Option.bind_eq_some_iff] at h
        obtain ⟨vs, hvs, h⟩ := h
        cases hL : allNoL vs with
        | false => rw [hL] at h; cases h
        | true => rw [hL] at h; cases h; cases hh
      · cases h
    | _ => cases h
  | extract x i =>
    rw [ho] at h
    simp only [Option.bind_eq_some_iff] at h
    obtain ⟨vx, h1, h2⟩ := h
    split at h2
    · exact (valN h2).elim
    · cases h2
  | slice t x l u m =>
    rw [ho] at h
    simp only [Option.bind_eq_some_iff] at h
    obtain ⟨_, _, _, _, _, _, _, _, h⟩ := h
    exact (valN h).elim
  | pick c x y =>
    rw [ho] at h
    simp only [Option.bind_eq_some_iff] at h
    obtain ⟨_, _, _, _, _, _, h⟩ := h
    exact (valN h).elim
  | move x => rw [ho] at h; exact (valN h).elim
  | assign x => rw [ho] at h; exact (valN h).elim
  | build t ps => rw [ho] at h; simp only [Option.bind_eq_some_iff] at h; obtain ⟨_, _, h⟩ := h; exact (valN h).elim
  | load t x => rw [ho] at h; simp only [Option.bind_eq_some_iff] at h; obtain ⟨_, _, h⟩ := h; exact (valN h).elim
  | unOp p t x => rw [ho] at h; simp only [Option.bind_eq_some_iff] at h; obtain ⟨_, _, h⟩ := h; exact (valN h).elim
  | convert s t x => rw [ho] at h; simp only [Option.bind_eq_some_iff] at h; obtain ⟨_, _, h⟩ := h; exact (valN h).elim
  | fieldAddr s x f => rw [ho] at h; simp only [Option.bind_eq_some_iff] at h; obtain ⟨_, _, h⟩ := h; exact (valN h).elim
  | field s x f => rw [ho] at h; simp only [Option.bind_eq_some_iff] at h; obtain ⟨_, _, h⟩ := h; exact (valN h).elim
  | binOp p t x y z => rw [ho] at h; simp only [Option.bind_eq_some_iff] at h; obtain ⟨_, _, _, _, h⟩ := h; exact (valN h).elim
  | indexAddr t x y => rw [ho] at h; simp only [Option.bind_eq_some_iff] at h; obtain ⟨_, _, _, _, h⟩ := h; exact (valN h).elim
  | index t x y => rw [ho] at h; simp only [Option.bind_eq_some_iff] at h; obtain ⟨_, _, _, _, h⟩ := h; exact (valN h).elim
  | _ => rw [ho] at h; cases h

/-! ### code -/
/-- from one state to the next: the old blocks are still there, and as they were if 'cl' says so -/
def Kept (st st' : St) : Prop := st'.n0 = st.n0 ∧ (st.n0 ≤ st.hp.length → st'.n0 ≤ st'.hp.length ∧ (st'.cl = true → st.cl = true ∧ ∀ k, k < st.n0 → st'.hp[k]? = st.hp[k]?))
theorem Kept.refl (st : St) : Kept st st := ⟨rfl, fun h => ⟨h, fun h => ⟨h, fun _ _ => rfl⟩⟩⟩
theorem Kept.trans {a b c : St} (h : Kept a b) (k : Kept b c) : Kept a c := by
  refine ⟨k.1.trans h.1, fun hn => ?_⟩
  obtain ⟨h1, h3⟩ := h.2 hn
  obtain ⟨k1, k3⟩ := k.2 h1
  refine ⟨k1, fun hc => ?_⟩
  obtain ⟨c1, c2⟩ := k3 hc
  obtain ⟨d1, d2⟩ := h3 c1
  exact ⟨d1, fun i hi => (c2 i (by rw [h.1]; exact hi)).trans (d2 i hi)⟩

theorem eff_kept (hk : Keeps rec) (h : eff T rec cfg o st = some e) (dst : Option Nat) : Kept st (st.app dst e) := by
  refine ⟨rfl, fun hn => ?_⟩
  cases hh : e.hp with
  | none => simp only [St.app, hh, Option.getD_none]; exact ⟨hn, fun hc => by simp at hc; exact ⟨hc.1, by simp⟩⟩
  | some hp' =>
    simp only [St.app, hh, Option.getD_some]
    rcases eff_wrote hk h hh with ⟨_, h1, _, h2, h4⟩ | ⟨_, S, ⟨h1, h2⟩, _, h3⟩
    · exact ⟨by omega, fun hc => by simp at hc; exact ⟨hc.1, fun k hk => h2 k (by have := h4 hc.2; omega)⟩⟩
    · exact ⟨by omega, fun hc => by simp at hc; exact ⟨hc.1, fun k hk => h2 k (by omega) fun hS => by have := h3 hc.2 k hS; omega⟩⟩

theorem stepA_kept {ops : Array Oper} (hk : Keeps rec) (h : stepA T rec cfg ops o st = some st') : Kept st st' := by
  unfold stepA at h
  simp only [Option.bind_eq_some_iff] at h
  obtain ⟨g, _, h⟩ := h
  cases g with
  | true =>
    simp only [cond_true, Option.map_eq_some_iff] at h
    obtain ⟨e, he, rfl⟩ := h
    exact eff_kept hk he _
  | false => cases h; exact Kept.refl st

theorem stepD_A {ops : Array Oper} {f : Foot} (h : stepD T rec cfg ops o st = some (st', f)) : stepA T rec cfg ops o st = some st' := by
  unfold stepD at h
  unfold stepA
  simp only [Option.bind_eq_some_iff] at h ⊢
  obtain ⟨g, hg, h⟩ := h
  refine ⟨g, hg, ?_⟩
  cases g with
  | true =>
    simp only [cond_true, Option.bind_eq_some_iff, Option.map_eq_some_iff] at h ⊢
    obtain ⟨e, he, h⟩ := h
    refine ⟨e, he, ?_⟩
    cases hn : noStale o.dst e st.env with
    | true => rw [hn] at h; cases h; rfl
    | false => rw [hn] at h; cases h
  | false => cases h; rfl

theorem runOps_kept {ops : Array Oper} (hk : Keeps rec) : ∀ (l : List Oper) (st st' : St), runOps T rec cfg ops l st = some st' → Kept st st'
  | [], st, st', h => by cases h; exact Kept.refl _
  | o :: l, st, st', h => by
    simp only [runOps, Option.bind_eq_some_iff] at h
    obtain ⟨s1, h1, h2⟩ := h
    exact (stepA_kept hk h1).trans (runOps_kept hk l s1 st' h2)

theorem runD_A {ops : Array Oper} : ∀ (l : List Oper) (st st' : St) (fs : List Foot), runD T rec cfg ops l st = some (st', fs) → runOps T rec cfg ops l st = some st'
  | [], st, st', fs, h => by cases h; rfl
  | o :: l, st, st', fs, h => by
    simp only [runD, Option.bind_eq_some_iff, Option.map_eq_some_iff] at h
    obtain ⟨⟨s1, f1⟩, h1, ⟨s2, fs2⟩, h2, h3⟩ := h
    cases h3
    simp only [runOps, stepD_A h1, Option.bind_some]
    exact runD_A l s1 _ _ h2

theorem region_kept {ops : Array Oper} {d : Bool} (hk : Keeps rec) (h : region T rec cfg ops d st = some st') : Kept st st' := by
  unfold region at h
  cases d with
  | false => exact runOps_kept hk _ _ _ h
  | true =>
    cases ho : orderOk ops with
    | false => rw [ho] at h; cases h
    | true =>
      rw [ho] at h
      simp only [cond_true, Option.bind_eq_some_iff] at h
      obtain ⟨⟨s, fs⟩, h1, h2⟩ := h
      cases hf : feetOk ops fs with
      | false => simp [hf] at h2
      | true => simp only [hf, cond_true, Option.some.injEq] at h2; subst h2; exact runOps_kept hk _ _ _ (runD_A _ _ _ _ h1)

theorem norm0_kept (cfg : Cfg) (c : Code) (st : St) : Kept st (norm0 cfg c st) := by
  unfold norm0
  split
  · split
    · exact Kept.refl st
    · exact Kept.refl st
  · exact Kept.refl st
theorem gcS_kept (st : St) : Kept st (gcS st) := by
  unfold gcS
  by_cases h0 : st.n0 = 0
  · simp only [h0, decide_true, cond_true]
    split
    · split
      · rename_i b _
        cases bareRows b.rows with
        | true =>
          simp only [cond_true]
          exact ⟨h0.symm, fun _ => ⟨Nat.zero_le _, fun hc => ⟨hc, fun k hk => by omega⟩⟩⟩
        | false => exact Kept.refl st
      · exact Kept.refl st
    · exact Kept.refl st
  · simp only [h0, decide_false, cond_false]
    exact Kept.refl st
theorem norm_kept (cfg : Cfg) (c : Code) (st : St) : Kept st (norm cfg c st) := by
  unfold norm
  split
  · rename_i i _
    cases cfg.gc.contains i with
    | true => exact (norm0_kept cfg c st).trans (gcS_kept _)
    | false => exact norm0_kept cfg c st
  · exact norm0_kept cfg c st

theorem evalC_kept (hk : Keeps rec) (n : Nat) (c : Code) : ∀ (st : St) (x : Ex) (st' : St), evalC T n rec cfg c st = some (x, st') → Kept st st' := by
  induction c with
  | skip => intro st x st' h; cases h; exact Kept.refl _
  | exit id => intro st x st' h; cases h; exact Kept.refl _
  | ret => intro st x st' h; cases h; exact Kept.refl _
  | region id ops d =>
    intro st x st' h
    simp only [evalC, Option.map_eq_some_iff] at h
    obtain ⟨s, hs, h⟩ := h
    cases h
    exact region_kept hk hs
  | seq a b iha ihb =>
    intro st x st' h
    simp only [evalC] at h
    split at h
    · rename_i s hs; exact (iha _ _ _ hs).trans (ihb _ _ _ h)
    · exact iha _ _ _ h
  | cond c a b iha ihb =>
    intro st x st' h
    simp only [evalC] at h
    split at h
    · split at h
      · exact iha _ _ _ h
      · exact ihb _ _ _ h
    · cases h
  | block id c ih =>
    intro st x st' h
    simp only [evalC] at h
    split at h
    · rename_i i s hs
      split at h <;> (cases h; exact ih _ _ _ hs)
    · exact ih _ _ _ h
  | loop c ih =>
    intro st x st' h
    simp only [evalC] at h
    have : ∀ m st, loopA (norm cfg c) (evalC T n rec cfg c) m st = some (x, st') → Kept st st' := by
      intro m
      induction m with
      | zero => intro st h; cases h
      | succ m ihm =>
        intro st h
        rw [loopA] at h
        split at h
        · rename_i s hs; exact ((norm_kept _ _ _).trans (ih _ _ _ hs)).trans (ihm _ h)
        · exact (norm_kept _ _ _).trans (ih _ _ _ h)
    exact this n st h
  | _ => intro st x st' h; cases h

end

theorem out_keeps {st : St} {r : AV} (hn : st.n0 ≤ st.hp.length) {v : AV} {hp' : List Blk} {c : Nat} (h : out st r = (v, hp', c)) : st.n0 ≤ hp'.length ∧ c ≤ st.n0 ∧ ∀ k, k < c → st.cl = true ∧ hp'[k]? = st.hp[k]? := by
  have tk : st.n0 ≤ (st.hp.take st.n0).length := by simp; omega
  have tg : ∀ k, k < st.n0 → (st.hp.take st.n0)[k]? = st.hp[k]? := fun k hk => by rw [List.getElem?_take, if_pos hk]
  unfold out at h
  cases hc : st.cl with
  | false => rw [hc] at h; cases h; exact ⟨hn, Nat.zero_le _, fun k h => by omega⟩
  | true =>
    rw [hc] at h
    simp only [cond_true] at h
    split at h
    · cases h; exact ⟨tk, Nat.le_refl _, fun k hk => ⟨rfl, tg k hk⟩⟩
    · split at h
      · split at h
        · split at h
          · split at h
            · cases h
              refine ⟨by simp at tk ⊢; omega, Nat.le_refl _, fun k hk => ⟨rfl, ?_⟩⟩
              rw [List.getElem?_append_left (by omega)]
              exact tg k hk
            · cases h; exact ⟨hn, Nat.le_refl _, fun _ _ => ⟨rfl, rfl⟩⟩
          · cases h; exact ⟨hn, Nat.le_refl _, fun _ _ => ⟨rfl, rfl⟩⟩
        · cases h; exact ⟨tk, Nat.le_refl _, fun k hk => ⟨rfl, tg k hk⟩⟩
      · cases h; exact ⟨hn, Nat.le_refl _, fun _ _ => ⟨rfl, rfl⟩⟩

theorem outN_eq {st : St} {hp0 : List Blk} {r : AV} (h : st.cl = true → st.hp.take st.n0 = hp0) : outN hp0 st r = out st r := by
  unfold outN out
  cases hc : st.cl with
  | false => rfl
  | true => rw [h hc]

theorem take_eq {a b : List Blk} (h : ∀ k, k < a.length → b[k]? = a[k]?) : b.take a.length = a := by
  apply List.ext_getElem?
  intro k
  rw [List.getElem?_take]
  by_cases hk : k < a.length
  · rw [if_pos hk]; exact h k hk
  · rw [if_neg hk, List.getElem?_eq_none (by omega)]

theorem evalF_keeps (P : Program) (cfg : Cfgs) (hko : Keeps cfg.ora) : ∀ n, Keeps (evalF P cfg n)
  | 0 => fun _ _ _ _ _ _ h => by cases h
  | n + 1 => by
    intro f vs hp v hp' c h
    rw [evalF_succ] at h
    cases ho : cfg.ora f vs hp with
    | some y =>
      rw [ho] at h
      cases h
      exact hko f vs hp v hp' c ho
    | none =>
    rw [ho] at h
    simp only at h
    have fin : ∀ {fn : Func} {k : Code} {x : Ex} {st : St}, evalC (tiOf P) n (evalF P cfg n) (cfg f) k (enterA vs hp) = some (x, st) → finish (tiOf P) fn hp st = some (v, hp', c) → hp.length ≤ hp'.length ∧ c ≤ hp.length ∧ ∀ k, k < c → hp'[k]? = hp[k]? := by
      intro fn k x st h1 h2
      obtain ⟨k1, k2⟩ := evalC_kept (evalF_keeps P cfg hko n) n k _ _ _ h1
      obtain ⟨k3, k5⟩ := k2 (Nat.le_refl _)
      unfold finish at h2
      simp only [Option.bind_eq_some_iff] at h2
      obtain ⟨rs, _, h2⟩ := h2
      cases hL : allNoL rs with
      | false => rw [hL] at h2; cases h2
      | true =>
        rw [hL] at h2
        simp only [cond_true, Option.some.injEq] at h2
        have hn : st.n0 = hp.length := k1
        rw [outN_eq fun hc => by rw [hn]; exact take_eq (k5 hc).2] at h2
        obtain ⟨o1, o0, o2⟩ := out_keeps k3 h2
        refine ⟨by omega, by omega, fun i hi => ?_⟩
        obtain ⟨o3, o4⟩ := o2 i hi
        rw [o4]
        exact (k5 o3).2 i (by omega)
    split at h
    · split at h
      · cases hk : codeOk (max _ vs.length) _ with
        | false => rw [hk] at h; cases h
        | true =>
          rw [hk] at h
          simp only [cond_true] at h
          split at h
          · rename_i hs; exact fin hs h
          · rename_i hs; exact fin hs h
          · cases h
      · cases h
    · cases h

end Go.Proofs.Ythbmlioknnhleaa.Abs
