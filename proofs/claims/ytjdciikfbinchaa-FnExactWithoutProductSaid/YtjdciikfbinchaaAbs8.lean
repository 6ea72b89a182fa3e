/- The abstract machine: new variables, built values, made slices, append and clear. -/
import Derived.Test.YtjdciikfbinchaaAbs7
import Derived.Deep.Upon
namespace Go.Proofs.Ytjdciikfbinchaa.Abs
open Go

section
variable {P : Program} {M : Mem} {ρ : Rho} {β : Nat → Option Nat} {hp : List Blk} {lo : List (Nat × List AV)} {w : World}

/-! ### zero values -/
theorem zeroCells_rel : ∀ (l : List Value) (xs : List AV), Abs.zeroCells l = some xs → xs.length = l.length ∧ ∀ (j : Nat) u, l[j]? = some u → u.oneCell' = true ∧ ∀ x, xs[j]? = some x → VRel M ρ hp x u
  | [], xs, h => by simp [Abs.zeroCells] at h; subst h; exact ⟨rfl, fun j u hj => by simp at hj⟩
  | v :: l, xs, h => by
    simp only [Abs.zeroCells] at h
    split at h
    · rename_i x xs' hx hxs
      cases h
      obtain ⟨h1, h2⟩ := zeroCells_rel l xs' hxs
      refine ⟨by simp [h1], fun j u hj => ?_⟩
      cases j with
      | zero =>
        simp at hj
        subst hj
        refine ⟨?_, fun y hy => by simp at hy; subst hy; exact constAV_rel hx⟩
        unfold constAV at hx
        split at hx <;> first | rfl | cases hx
      | succ j => exact ⟨(h2 j u (by simpa using hj)).1, fun y hy => (h2 j u (by simpa using hj)).2 y (by simpa using hy)⟩
    · cases h

theorem zero_rel {ti : TI} {i : TypeInfo} {z : Value} (hz : Abs.zeroCells z.cells.toList = some ti.zero) (hl : ti.zero.length = i.size) :
    z.cells.size = i.size ∧ One z.cells ∧ CellsIn M ρ hp ti.zero z.cells := by
  obtain ⟨h1, h2⟩ := zeroCells_rel (M := M) (ρ := ρ) (hp := hp) _ _ hz
  refine ⟨by rw [← hl, h1]; rfl, fun j u hj => (h2 j u (by simpa using hj)).1, fun j x u hx hu => (h2 j u (by simpa using hu)).2 x hx⟩

/-! ### a new variable -/
theorem varA_rel {esc : Bool} {dst : Option Nat} {ty : Nat} {cs : List AV} {e : Eff} (hR : Real M ρ β hp lo w.heap) (he : varA esc hp dst ty cs = some e) {c : Array Value} (hs : c.size = cs.length) (hone : One c)
    (hc : CellsIn M ρ hp cs c) : PostE M ρ β hp lo w dst e (.pointer (some ⟨w.heap.size, 0, none⟩)) (w.alloc (.cells c ty)) := by
  unfold varA at he
  split at he
  · rename_i d
    cases esc with
    | true =>
      simp only [cond_true] at he
      split at he
      · rename_i hpos
        cases he
        have hE := Ext.snoc (ρ := ρ) (hp := hp) ⟨ty, cs.length, [cs]⟩ ⟨w.heap.size, c.size⟩
        have hR' := hR.snoc ⟨ty, cs.length, [cs]⟩ c hpos (by simp [hs]) (by simp) hone (fun i row j x u hi hx hu => by
          cases i with
          | zero => simp at hi; subst hi; exact hc j x u hx (by simpa using hu)
          | succ i => simp at hi)
        refine ⟨M, _, β, SubM.refl _, hE, hR', .inr ?_, ⟨rfl, rfl, rfl, by simp⟩, .inl rfl⟩
        exact .ptr (b := ⟨ty, cs.length, [cs]⟩) (l := ⟨w.heap.size, c.size⟩) (by simp) (upd_same _ _ _) (Nat.le_refl _) rfl (fun _ => by simp)
      · cases he
    | false =>
      simp only [cond_false, Option.some.injEq] at he
      subst he
      refine ⟨M, ρ, upd β d w.heap.size, SubM.refl _, Ext.refl _ _, hR.newVar d cs c ty hs hone hc, .inl ⟨d, 0, w.heap.size, rfl, upd_same _ _ _, rfl⟩, ⟨rfl, rfl, rfl, by simp⟩, .inr ⟨d, _, rfl, rfl, rfl⟩⟩
  · cases he

/-! ### built values -/
theorem foldl_set (off : Nat) : ∀ (l : List Value) (k : Nat) (c : Array Value), off + k + l.length ≤ c.size →
    let c' := (l.zipIdx k).foldl (fun cs (x : Value × Nat) => cs.setIfInBounds (off + x.2) x.1) c
    c'.size = c.size ∧ ∀ p, c'[p]? = if off + k ≤ p ∧ p < off + k + l.length then l[p - (off + k)]? else c[p]?
  | [], k, c, _ => ⟨rfl, fun p => by rw [if_neg (by rintro ⟨h1, h2⟩; simp at h2; omega)]; rfl⟩
  | v :: l, k, c, h => by
    simp only [List.length_cons] at h
    obtain ⟨h1, h2⟩ := foldl_set off l (k + 1) (c.setIfInBounds (off + k) v) (by simp; omega)
    refine ⟨by simpa using h1, fun p => ?_⟩
    have := h2 p
    simp only [List.zipIdx_cons, List.foldl_cons]
    rw [this]
    by_cases hp : p = off + k
    · subst hp
      have hlt : off + k < c.size := by omega
      rw [if_neg (by omega), if_pos (by simp)]
      simp [hlt]
    · by_cases hq : off + (k + 1) ≤ p ∧ p < off + (k + 1) + l.length
      · rw [if_pos hq, if_pos (by simp; omega), show p - (off + k) = (p - (off + (k + 1))) + 1 by omega]
        simp
      · rw [if_neg hq, if_neg (by simp; omega), Array.getElem?_setIfInBounds_ne (by omega)]

theorem fill_rel (place : Nat → Option (Nat × Nat)) : ∀ (ps : List (Nat × AV)) (us : List (Nat × Value)) (cs cs' : List AV) (c : Array Value), filled place ps cs = some cs' → us.length = ps.length →
    (∀ (j : Nat) i x i' u, ps[j]? = some (i, x) → us[j]? = some (i', u) → i' = i ∧ ERel M ρ β hp x u) → c.size = cs.length → One c → CellsIn M ρ hp cs c →
    ∃ c', Instr.fill place c us = some c' ∧ c'.size = cs'.length ∧ cs'.length = cs.length ∧ One c' ∧ CellsIn M ρ hp cs' c'
  | [], us, cs, cs', c, h, hl, _, hs, ho, hc => by
    simp only [filled, Option.some.injEq] at h
    simp only [List.length_nil, List.length_eq_zero_iff] at hl
    subst h; subst hl
    exact ⟨c, rfl, hs, rfl, ho, hc⟩
  | (i, x) :: ps, us, cs, cs', c, h, hl, hr, hs, ho, hc => by
    cases us with
    | nil => simp at hl
    | cons y us =>
      obtain ⟨i', u⟩ := y
      obtain ⟨rfl, hxu⟩ := hr 0 i x i' u rfl rfl
      simp only [filled] at h
      split at h
      · rename_i off s hpl
        split at h
        · rename_i hcond
          obtain ⟨hn, hlen, hfit⟩ := hcond
          obtain ⟨k1, k2, k3⟩ := cells_rel (hxu.noL hn) hn
          obtain ⟨f1, f2⟩ := foldl_set off u.cells.toList 0 c (by simp; omega)
          simp only [Nat.add_zero, Array.length_toList] at f1 f2
          have hsp := fun j => storeRow_get (x := .agg x.cells) (row := cs) (q := off) (by show off + x.cells.length ≤ _; omega) rfl j
          have hsp' : ∀ j, (splice cs off x.cells)[j]? = if off ≤ j ∧ j < off + x.cells.length then x.cells[j - off]? else cs[j]? := fun j => (hsp j).2
          have hspl : (splice cs off x.cells).length = cs.length := (hsp 0).1
          have hfold : u.cells.zipIdx.foldl (fun cs (c, j) => cs.setIfInBounds (off + j) c) c = (u.cells.toList.zipIdx 0).foldl (fun cs (x : Value × Nat) => cs.setIfInBounds (off + x.2) x.1) c := by
            rw [← Array.foldl_toList, Array.toList_zipIdx]
          obtain ⟨c', g1, g2, g3, g4, g5⟩ := fill_rel place ps us (splice cs off x.cells) cs' _ h (by simpa using hl) (fun j i x i' u a b => hr (j + 1) i x i' u (by simpa using a) (by simpa using b)) (f1.trans (by rw [hspl]; exact hs))
            (fun j v hj => by
              rw [f2] at hj
              split at hj
              · exact k2 _ _ (by simpa using hj)
              · exact ho _ _ hj)
            (fun j y v hy hv => by
              rw [f2] at hv
              rw [hsp'] at hy
              rw [k1] at hv
              split at hv
              · rename_i hjj
                rw [if_pos hjj] at hy
                exact k3 _ _ _ hy (by simpa using hv)
              · rename_i hjj
                rw [if_neg hjj] at hy
                exact hc _ _ _ hy hv)
          refine ⟨c', ?_, g2, g3.trans hspl, g4, g5⟩
          simp only [Instr.fill, hpl]
          rw [if_neg (by simp; omega), hfold]
          exact g1
        · cases h
      · cases h

theorem packed_filled (place : Nat → Option (Nat × Nat)) : ∀ (pl : List (Nat × Nat)) (ps : List (Nat × AV)) (i at_ : Nat) (l : List (List AV)) (cs : List AV), packed pl ps i at_ = some l → (∀ j, place (i + j) = pl[j]?) →
    at_ + l.flatten.length = cs.length → filled place ps cs = some (cs.take at_ ++ l.flatten)
  | [], [], i, at_, l, cs, h, _, hl => by
    simp [packed] at h
    subst h
    simp only [List.flatten_nil, List.length_nil, Nat.add_zero] at hl
    simp [filled, hl]
  | (off, s) :: pl, (j, v) :: ps, i, at_, l, cs, h, hp', hl => by
    simp only [packed] at h
    split at h
    · rename_i hc
      obtain ⟨rfl, rfl, hn, hs⟩ := hc
      simp only [Option.map_eq_some_iff] at h
      obtain ⟨l', hl', rfl⟩ := h
      simp only [List.flatten_cons, List.length_append] at hl
      have h0 : place j = some (off, s) := by have := hp' 0; simpa using this
      have hsp := fun k => storeRow_get (x := .agg v.cells) (row := cs) (q := off) (by show off + v.cells.length ≤ _; omega) rfl k
      have hsp' : ∀ k, (splice cs off v.cells)[k]? = if off ≤ k ∧ k < off + v.cells.length then v.cells[k - off]? else cs[k]? := fun k => (hsp k).2
      have hspl : (splice cs off v.cells).length = cs.length := (hsp 0).1
      have ih := packed_filled place pl ps (j + 1) (off + s) l' (splice cs off v.cells) hl' (fun k => by have := hp' (k + 1); rw [show j + 1 + k = j + (k + 1) by omega]; simpa using this) (by rw [hspl]; omega)
      simp only [filled, h0]
      rw [if_pos ⟨hn, hs, by omega⟩, ih]
      congr 1
      rw [List.flatten_cons, ← List.append_assoc]
      congr 1
      apply List.ext_getElem?
      intro k
      rw [List.getElem?_take, hsp']
      by_cases hk : k < off
      · rw [if_pos (by omega), if_neg (by omega), List.getElem?_append_left (by simp; omega), List.getElem?_take, if_pos hk]
      · have hlt : (cs.take off).length = off := by simp; omega
        rw [List.getElem?_append_right (by omega), hlt]
        by_cases hk2 : k < off + s
        · rw [if_pos hk2, if_pos (by omega)]
        · rw [if_neg hk2, List.getElem?_eq_none (by omega)]
    · cases h
  | [], _ :: _, _, _, _, _, h, _, _ => by simp [packed] at h
  | _ :: _, [], _, _, _, _, h, _, _ => by simp [packed] at h

theorem fillA_filled {pl : List (Nat × Nat)} {parts : List (Nat × AV)} {zero cs : List AV} (h : fillA pl parts zero = some cs) : filled (fun i => pl[i]?) parts zero = some cs := by
  unfold fillA at h
  split at h
  · exact h
  · split at h
    · rename_i l hl
      split at h
      · rename_i hlen
        cases h
        have := packed_filled (fun i => pl[i]?) pl parts 0 0 l zero hl (fun j => by simp) (by omega)
        simpa using this
      · cases h
    · exact h

theorem opds_rel {env : List (Nat × AV)} {a : Act} : ∀ (l : List (Nat × Operand)) (ps : List (Nat × AV)), opds env l = some ps → (∀ t, Operand.tmp t ∈ l.map (·.2) → ERel M ρ β hp (get env t) (a.tmps.getD t undef)) →
    (l.map fun (i, x) => (i, a.eval x)).length = ps.length ∧ ∀ (j : Nat) i x i' u, ps[j]? = some (i, x) → (l.map fun (i, x) => (i, a.eval x))[j]? = some (i', u) → i' = i ∧ ERel M ρ β hp x u
  | [], ps, h, _ => by
    simp [opds] at h
    subst h
    exact ⟨rfl, fun j i x i' u hj => by simp at hj⟩
  | (i, x) :: l, ps, h, hE => by
    simp only [opds] at h
    split at h
    · rename_i v vs hv hvs
      cases h
      obtain ⟨h1, h2⟩ := opds_rel l vs hvs fun t ht => hE t (by simp only [List.map_cons]; exact List.mem_cons_of_mem _ ht)
      refine ⟨by simpa using h1, fun j i' y i'' u hy hu => ?_⟩
      cases j with
      | zero =>
        simp at hy hu
        obtain ⟨rfl, rfl⟩ := hy
        obtain ⟨rfl, rfl⟩ := hu
        exact ⟨rfl, opd_rel hv fun t ht => hE t (by simp [ht])⟩
      | succ j => exact h2 j i' y i'' u (by simpa using hy) (by simpa using hu)
    · cases h

theorem placesT_get : ∀ (gs : List Field) (pl : List (Nat × Nat)), placesT (tiOf P) (gs.map fun f => (f.offset, f.type)) = some pl →
    (gs.mapM fun f => (do pure (f.offset, ← Go.sizeOf f.type) : Sem (Nat × Nat))).run P w = .ok pl w
  | [], pl, h => by simp [placesT] at h; subst h; simp
  | f :: gs, pl, h => by
    simp only [List.map_cons, placesT] at h
    split at h
    · rename_i s ss hs hss
      cases h
      have ih := placesT_get gs ss hss
      unfold sizeT at hs
      simp only [Option.map_eq_some_iff] at hs
      obtain ⟨ti, ht, rfl⟩ := hs
      obtain ⟨i, z, d, hi, _, _, _, _, hsz, _, _, _⟩ := tiOf_some ht
      simp only [List.mapM_cons, Sem.run_bind, run_sizeOf' hi, Result.andThen_ok, Sem.run_pure, ih, hsz]
    · cases h

theorem run_zeroValue' {t : Nat} {i : TypeInfo} {z : Value} (hi : P.info? t = some i) (hz : i.zero = some z) : (zeroValue t).run P w = .ok z w := by simp [zeroValue, run_typeInfo' hi, hz]

theorem evenly_get (n s i : Nat) : (evenly n s)[i]? = if i < n then some (i * s, s) else none := by
  unfold evenly
  by_cases h : i < n <;> simp [h]

theorem fill_congr {place place' : Nat → Option (Nat × Nat)} : ∀ (us : List (Nat × Value)) (c : Array Value), (∀ x ∈ us, place x.1 = place' x.1) → Instr.fill place c us = Instr.fill place' c us
  | [], _, _ => rfl
  | (i, u) :: us, c, h => by
    have h0 := h (i, u) (by simp)
    simp only at h0
    simp only [Instr.fill, h0]
    cases place' i with
    | none => rfl
    | some x =>
      obtain ⟨off, s⟩ := x
      simp only
      split
      · rfl
      · exact fill_congr us _ fun x hx => h x (by simp [hx])

theorem filled_names {place : Nat → Option (Nat × Nat)} : ∀ (ps : List (Nat × AV)) (cs cs' : List AV), filled place ps cs = some cs' → ∀ x ∈ ps, (place x.1).isSome = true
  | [], _, _, _, x, hx => by simp at hx
  | (i, v) :: ps, cs, cs', h, x, hx => by
    simp only [filled] at h
    split at h
    · rename_i off s hpl
      split at h
      · rcases List.mem_cons.1 hx with rfl | hx
        · simp [hpl]
        · exact filled_names ps _ _ h x hx
      · cases h
    · cases h

theorem build_rel {t : Nat} {ps : List (Nat × AV)} {us : Array (Nat × Value)} {cs : List AV} (h : buildA (tiOf P) t ps = some cs) (hl : us.toList.length = ps.length)
    (hr : ∀ (j : Nat) i x i' u, ps[j]? = some (i, x) → us.toList[j]? = some (i', u) → i' = i ∧ ERel M ρ β hp x u) :
    ∃ c, (Instr.build t us).run P w = .ok (.agg c) w ∧ VRel M ρ hp (.agg cs) (.agg c) := by
  have names : ∀ (place : Nat → Option (Nat × Nat)) zs, filled place ps zs = some cs → ∀ x ∈ us.toList, (place x.1).isSome = true := by
    intro place zs hf x hx
    obtain ⟨j, hj⟩ := List.mem_iff_getElem?.1 hx
    have hlt : j < ps.length := by have := (List.getElem?_eq_some_iff.1 hj).1; omega
    obtain ⟨e1, _⟩ := hr j ps[j].1 ps[j].2 x.1 x.2 (by simp [hlt]) hj
    rw [e1]
    exact filled_names ps _ _ hf ps[j] (List.getElem_mem hlt)
  unfold buildA at h
  split at h
  · rename_i ti ht
    obtain ⟨i, z, d, hi, hz, hzc, hzl, htd, hsz, hby, hd, _⟩ := tiOf_some ht
    obtain ⟨z1, z2, z3⟩ := zero_rel (M := M) (ρ := ρ) (hp := hp) hzc hzl
    obtain ⟨_, _, _, _, hty1, hty2⟩ := tyOf_eq (P := P) (t := t)
    rw [htd] at h
    split at h
    · rename_i fs hfs
      obtain ⟨gs, hgs, rfl⟩ := hty2 fs hfs
      simp only [Option.bind_eq_some_iff] at h
      obtain ⟨pl, hpl, h⟩ := h
      have hf := fillA_filled h
      obtain ⟨c', g1, g2, g3, g4, g5⟩ := fill_rel (β := β) _ ps us.toList ti.zero cs z.cells hf hl hr (by rw [z1, hzl]) z2 z3
      refine ⟨c', ?_, .agg g2 g4 g5⟩
      have hm : (gs.mapM fun f => (do pure (f.offset, ← Go.sizeOf f.type) : Sem (Nat × Nat))).run P w = .ok pl.toArray w := by
        rw [Array.mapM_eq_mapM_toList]
        simp only [Sem.run_map, placesT_get gs.toList pl hpl, Result.andThen_ok]
      simp only [Instr.build, Sem.run_bind, run_zeroValue' hi hz, Result.andThen_ok, run_underlying hgs]
      rw [hm]
      simp only [Result.andThen_ok]
      rw [fill_congr (place' := fun i => pl[i]?) us.toList _ (fun x _ => by simp), g1]
      rfl
    · rename_i n e hne
      have hu := hty1 n e hne
      simp only [Option.bind_eq_some_iff] at h
      obtain ⟨s, hs, h⟩ := h
      unfold sizeT at hs
      simp only [Option.map_eq_some_iff] at hs
      obtain ⟨te, hte, rfl⟩ := hs
      obtain ⟨ie, _, _, hie, _, _, _, _, hse, _, _, _⟩ := tiOf_some hte
      split at h
      · have hf := fillA_filled h
        obtain ⟨c', g1, g2, g3, g4, g5⟩ := fill_rel (β := β) _ ps us.toList ti.zero cs z.cells hf hl hr (by rw [z1, hzl]) z2 z3
        refine ⟨c', ?_, .agg g2 g4 g5⟩
        simp only [Instr.build, Sem.run_bind, run_zeroValue' hi hz, Result.andThen_ok, run_underlying hu, run_sizeOf' hie]
        rw [fill_congr (place' := fun i => (evenly n te.size)[i]?) us.toList _ (fun x hx => by
          have := names _ _ hf x hx
          simp only [evenly_get] at this ⊢
          split at this
          · rename_i hlt; rw [if_pos hlt, hse]
          · cases this), g1]
        rfl
      · cases h
    · cases h
  · cases h

/-! ### rows -/
theorem packed_rows : ∀ (pl : List (Nat × Nat)) (ps : List (Nat × AV)) (i at_ : Nat) (l : List (List AV)), packed pl ps i at_ = some l → l.length = pl.length ∧ ∀ (j : Nat) row, l[j]? = some row → ∃ off, pl[j]? = some (off, row.length)
  | [], [], i, at_, l, h => by simp [packed] at h; subst h; exact ⟨rfl, fun j row hj => by simp at hj⟩
  | (off, s) :: pl, (j, v) :: ps, i, at_, l, h => by
    simp only [packed] at h
    split at h
    · rename_i hc
      simp only [Option.map_eq_some_iff] at h
      obtain ⟨l', hl', rfl⟩ := h
      obtain ⟨h1, h2⟩ := packed_rows pl ps (i + 1) (at_ + s) l' hl'
      refine ⟨by simp [h1], fun j row hj => ?_⟩
      cases j with
      | zero => simp at hj; subst hj; exact ⟨off, by simp [hc.2.2.2]⟩
      | succ j => exact h2 j row (by simpa using hj)
    · cases h
  | [], _ :: _, _, _, _, h => by simp [packed] at h
  | _ :: _, [], _, _, _, h => by simp [packed] at h

theorem flat_get {sz : Nat} : ∀ (rows : List (List AV)), (∀ row ∈ rows, row.length = sz) → ∀ (i j : Nat) (row : List AV), rows[i]? = some row → j < sz → rows.flatten[i * sz + j]? = row[j]?
  | [], _, i, j, row, h, _ => by simp at h
  | r :: rows, hl, 0, j, row, h, hj => by
    simp at h
    subst h
    have := hl r (by simp)
    rw [List.flatten_cons, Nat.zero_mul, Nat.zero_add, List.getElem?_append_left (by omega)]
  | r :: rows, hl, i + 1, j, row, h, hj => by
    have := hl r (by simp)
    rw [List.flatten_cons, List.getElem?_append_right (by rw [Nat.succ_mul]; omega), show (i + 1) * sz + j - r.length = i * sz + j by rw [Nat.succ_mul]; omega]
    exact flat_get rows (fun x hx => hl x (by simp [hx])) i j row (by simpa using h) hj

theorem flat_len {sz : Nat} : ∀ (rows : List (List AV)), (∀ row ∈ rows, row.length = sz) → rows.flatten.length = rows.length * sz
  | [], _ => by simp
  | r :: rows, hl => by
    rw [List.flatten_cons, List.length_append, hl r (by simp), flat_len rows (fun x hx => hl x (by simp [hx])), List.length_cons, Nat.succ_mul]
    omega

/-- cells that hold rows, one behind the other -/
theorem RowsIn.of_flat {sz : Nat} {rows : List (List AV)} {c : Array Value} (hl : ∀ row ∈ rows, row.length = sz) (h : CellsIn M ρ hp rows.flatten c) : RowsIn M ρ hp sz rows c := fun i row j x u hi hx hu => by
  have hj : j < sz := by have := (List.getElem?_eq_some_iff.1 hx).1; rw [hl row (List.mem_of_getElem? hi)] at this; exact this
  exact h _ x u (by rw [flat_get rows hl i j row hi hj]; exact hx) hu

theorem buildSlice_rel {t len e : Nat} {te : TI} {ps : List (Nat × AV)} {us : Array (Nat × Value)} {rows : List (List AV)} (he : elemT (tiOf P) t = some (e, te)) (h : packed (evenly len te.size) ps 0 0 = some rows)
    (hb : len ≤ 1024 ∧ te.size ≤ 1024) (hl : us.toList.length = ps.length) (hr : ∀ (j : Nat) i x i' u, ps[j]? = some (i, x) → us.toList[j]? = some (i', u) → i' = i ∧ ERel M ρ β hp x u) :
    ∃ c, (Instr.buildSlice t len us).run P w = .ok (.slice (some ⟨w.heap.size, 0, none⟩) len len) (w.alloc (.cells c e)) ∧ c.size = len * te.size ∧ rows.length = len ∧ (∀ row ∈ rows, row.length = te.size) ∧ One c ∧ RowsIn M ρ hp te.size rows c := by
  obtain ⟨p1, p2⟩ := packed_rows _ _ _ _ _ h
  have hlen : rows.length = len := by rw [p1]; simp [evenly]
  have hrl : ∀ row ∈ rows, row.length = te.size := by
    intro row hrow
    obtain ⟨j, hj⟩ := List.mem_iff_getElem?.1 hrow
    obtain ⟨off, ho⟩ := p2 j row hj
    rw [evenly_get] at ho
    split at ho
    · exact (Prod.mk.inj (Option.some.inj ho)).2.symm
    · cases ho
  have hfl := flat_len rows hrl
  unfold elemT at he
  split at he
  · rename_i ti ht
    split at he
    · rename_i e' he'
      simp only [Option.map_eq_some_iff] at he
      obtain ⟨te', hte, heq⟩ := he
      cases heq
      obtain ⟨i, z, d, hi, hz, hzc, hzl, htd, hsz, hby, hd, _⟩ := tiOf_some ht
      obtain ⟨ie, ze, de, hie, hze, hzec, hzel, _, hse, _, _, _⟩ := tiOf_some hte
      obtain ⟨_, _, _, hsl, _, _⟩ := tyOf_eq (P := P) (t := t)
      rw [htd] at he'
      have hu := hsl _ he'
      have hf := packed_filled (fun i => (evenly len te.size)[i]?) _ ps 0 0 rows (List.replicate (len * te.size) .undef) h (fun j => by simp) (by simp [hfl, hlen])
      simp only [List.take_zero, List.nil_append] at hf
      -- the cells before the parts are laid
      have hone0 : One ((Array.range (len * ie.size)).map ((if len * ie.size = 0 then #[] else ze.cells)[· % (if len * ie.size = 0 then #[] else ze.cells).size]!)) := by
        obtain ⟨z1, z2, _⟩ := zero_rel (M := M) (ρ := ρ) (hp := hp) hzec hzel
        intro j u hj
        rw [Array.getElem?_map] at hj
        cases hrg : (Array.range (len * ie.size))[j]? with
        | none => rw [hrg] at hj; cases hj
        | some k =>
          rw [hrg] at hj
          simp only [Option.map_some, Option.some.injEq] at hj
          have hk : k < len * ie.size := by
            rw [Array.getElem?_eq_some_iff] at hrg
            obtain ⟨hlt, hkk⟩ := hrg
            simp at hlt hkk
            omega
          have hne : len * ie.size ≠ 0 := by omega
          simp only [if_neg hne] at hj
          have hpos : 0 < ze.cells.size := by
            rw [z1]
            rcases Nat.eq_zero_or_pos ie.size with h0 | h0
            · rw [h0] at hne; simp at hne
            · exact h0
          have hm : k % ze.cells.size < ze.cells.size := Nat.mod_lt k hpos
          rw [getElem!_pos ze.cells (k % ze.cells.size) hm] at hj
          exact z2 (k % ze.cells.size) u (by rw [Array.getElem?_eq_getElem hm, hj])
      obtain ⟨c', g1, g2, g3, g4, g5⟩ := fill_rel (M := M) (ρ := ρ) (hp := hp) (β := β) _ ps us.toList _ _ ((Array.range (len * ie.size)).map ((if len * ie.size = 0 then #[] else ze.cells)[· % (if len * ie.size = 0 then #[] else ze.cells).size]!)) hf hl hr (by simp [hse]) hone0
        (fun j x u hx _ => by
          rw [List.getElem?_replicate] at hx
          split at hx
          · cases hx; exact .undef _
          · cases hx)
      refine ⟨c', ?_, by rw [g2, hfl, hlen], hlen, hrl, g4, .of_flat hrl g5⟩
      have hsmall : ¬ (len * ie.size > 2 ^ 24) := by
        have := Nat.mul_le_mul hb.1 hb.2
        rw [hse] at this
        omega
      have hfc : Instr.fill (fun i => some (i * ie.size, ie.size)) ((Array.range (len * ie.size)).map ((if len * ie.size = 0 then #[] else ze.cells)[· % (if len * ie.size = 0 then #[] else ze.cells).size]!)) us.toList = some c' := by
        rw [fill_congr (place' := fun i => (evenly len te.size)[i]?) us.toList _ (fun x hx => ?_), g1]
        obtain ⟨j, hj⟩ := List.mem_iff_getElem?.1 hx
        have hlt : j < ps.length := by have := (List.getElem?_eq_some_iff.1 hj).1; omega
        obtain ⟨e1, _⟩ := hr j ps[j].1 ps[j].2 x.1 x.2 (by simp [hlt]) hj
        have hnm := filled_names ps _ _ hf ps[j] (List.getElem_mem hlt)
        rw [e1]
        simp only [evenly_get] at hnm ⊢
        split at hnm
        · rename_i hlt'; rw [if_pos hlt', hse]
        · cases hnm
      by_cases h0 : len * ie.size = 0
      · simp only [if_pos h0] at hfc
        simp only [Instr.buildSlice, Sem.run_bind, run_underlying hu, Result.andThen_ok, run_sizeOf' hie, if_neg hsmall]
        rw [if_pos h0]
        simp only [Sem.run_bind, Sem.run_pure, Result.andThen_ok]
        rw [hfc]
        rfl
      · simp only [if_neg h0] at hfc
        simp only [Instr.buildSlice, Sem.run_bind, run_underlying hu, Result.andThen_ok, run_sizeOf' hie, if_neg hsmall, if_neg h0, run_zeroValue' hie hze, Sem.run_pure]
        rw [hfc]
        rfl
    · cases he
  · cases he

end
end Go.Proofs.Ytjdciikfbinchaa.Abs
