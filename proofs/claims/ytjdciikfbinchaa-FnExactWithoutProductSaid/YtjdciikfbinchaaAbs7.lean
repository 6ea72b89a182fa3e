/- The abstract machine's operations on memory: loads, stores, new variables and blocks. -/
import Derived.Test.YtjdciikfbinchaaAbs6
namespace Go.Proofs.Ytjdciikfbinchaa.Abs
open Go

/-! ### many cells written -/
theorem setCells_frame (b : Nat) : ∀ (vs : List Value) (o : Nat) (w : World), (w.setCells b o vs).os = w.os ∧ (w.setCells b o vs).tape = w.tape ∧ (w.setCells b o vs).output = w.output ∧ (w.setCells b o vs).heap.size = w.heap.size ∧
    ∀ g, g ≠ b → (w.setCells b o vs).heap[g]? = w.heap[g]?
  | [], _, _ => ⟨rfl, rfl, rfl, rfl, fun _ _ => rfl⟩
  | v :: r, o, w => by
    obtain ⟨h1, h2, h3, h4, h5⟩ := setCells_frame b r (o + 1) (w.setCell ⟨b, o, none⟩ v)
    refine ⟨h1, h2, h3, by rw [World.setCells, h4, World.size_setCell], fun g hg => ?_⟩
    rw [World.setCells, h5 g hg]
    exact RowKit.Below.heap_setCell w ⟨b, o, none⟩ v g hg

theorem Adv.setCells (w : World) (b o : Nat) (vs : List Value) : Adv w (w.setCells b o vs) :=
  let ⟨h1, h2, h3, h4, _⟩ := setCells_frame b vs o w
  ⟨h1, h2, h3, by rw [h4]; exact Nat.le_refl _⟩

theorem setCells_at (b : Nat) : ∀ (vs : List Value) (o : Nat) (w : World) (c : Array Value) (e : TypeId), w.heap[b]? = some (.cells c e (0, 0)) → o + vs.length ≤ c.size →
    ∃ c', (w.setCells b o vs).heap[b]? = some (.cells c' e (0, 0)) ∧ c'.size = c.size ∧ ∀ p, c'[p]? = if o ≤ p ∧ p < o + vs.length then vs[p - o]? else c[p]?
  | [], o, w, c, e, h, _ => ⟨c, h, rfl, fun p => by rw [if_neg (by rintro ⟨h1, h2⟩; simp at h2; omega)]⟩
  | v :: r, o, w, c, e, h, hs => by
    have h' : (w.setCell ⟨b, o, none⟩ v).heap[b]? = some (.cells (c.setIfInBounds o v) e (0, 0)) := by
      simp only [World.setCell, Array.getElem?_modify, h, if_true, Option.map_some]
      rfl
    simp only [List.length_cons] at hs
    obtain ⟨c', h1, h2, h3⟩ := setCells_at b r (o + 1) _ _ e h' (by simp; omega)
    refine ⟨c', h1, by rw [h2]; simp, fun p => ?_⟩
    rw [h3]
    simp only [List.length_cons]
    by_cases hp : p = o
    · subst hp
      rw [if_neg (by omega), if_pos (by omega)]
      have hlt : p < c.size := by omega
      simp [hlt]
    · by_cases hq : o + 1 ≤ p ∧ p < o + 1 + r.length
      · rw [if_pos hq, if_pos (by omega), show p - o = (p - (o + 1)) + 1 by omega]
        simp
      · rw [if_neg hq, if_neg (by omega)]
        rw [Array.getElem?_setIfInBounds_ne (by omega)]

section
variable {P : Program} {M : Mem} {ρ : Rho} {β : Nat → Option Nat} {hp : List Blk} {lo : List (Nat × List AV)} {w : World}

theorem cell_at {g : Nat} {c : Array Value} {e : TypeId} {f : Nat × Nat} (h : w.heap[g]? = some (.cells c e f)) (j : Nat) : w.cell? ⟨g, j, none⟩ = c[j]? := by
  simp [World.cell?, h]
theorem frozen_at {g : Nat} {c : Array Value} {e : TypeId} (h : w.heap[g]? = some (.cells c e (0, 0))) (j : Nat) : w.frozen? ⟨g, j, none⟩ = false := by
  simp [World.frozen?, h]

/-- what a load gives -/
theorem load_rel {t : Nat} {ti : TI} (ht : tiOf P t = some ti) {g base q : Nat} {c : Array Value} {e : TypeId} {f : Nat × Nat} (hH : w.heap[g]? = some (.cells c e f)) {row : List AV} (hone : OneIn c base row.length)
    (hin : base + row.length ≤ c.size) (hc : ∀ (j : Nat) x u, row[j]? = some x → c[base + j]? = some u → VRel M ρ hp x u) {x : AV} (hx : partOf ti row q = some x) :
    ∃ u, (loadVar t ⟨g, base + q, none⟩).run P w = .ok u w ∧ VRel M ρ hp x u := by
  obtain ⟨i, z, d, hi, _, _, _, htd, hsz, _, hd, _⟩ := tiOf_some ht
  unfold partOf at hx
  rw [htd] at hx
  cases ha : agg? (tyOf P t) with
  | true =>
    rw [ha] at hx
    simp only [cond_true] at hx
    split at hx
    · rename_i hle
      cases hx
      have hrow : d.isRow = true := by
        have := agg_eq (P := P) (t := t)
        rw [ha, hd] at this
        cases d <;> simp at this ⊢
      have hl := run_loadVar_mid (P := P) w g (base + q) t (c.extract (base + q) (base + q + i.size)).toList d (fun j v hv => by
        rw [cell_at hH]
        rw [Array.getElem?_toList, Array.getElem?_extract] at hv
        split at hv
        · exact hv
        · cases hv) hd hrow (by rw [hi]; simp; omega)
      refine ⟨_, hl, ?_⟩
      rw [← hsz]
      refine .agg (by simp; omega) (fun j u hu => ?_) fun j y u hy hu => ?_
      · simp only [List.getElem?_toArray, Array.getElem?_toList, Array.getElem?_extract] at hu
        split at hu
        · rename_i hlt
          exact hone (q + j) u (by omega) (by rw [← Nat.add_assoc]; exact hu)
        · cases hu
      · simp only [List.getElem?_toArray, Array.getElem?_toList, Array.getElem?_extract] at hu
        rw [List.getElem?_take] at hy
        split at hy
        · rw [List.getElem?_drop] at hy
          split at hu
          · exact hc _ _ _ hy (by rw [← Nat.add_assoc]; exact hu)
          · cases hu
        · cases hy
    · cases hx
  | false =>
    rw [ha] at hx
    simp only [cond_false] at hx
    have hq := (List.getElem?_eq_some_iff.1 hx).1
    have hlt : base + q < c.size := by omega
    refine ⟨c[base + q], ?_, hc q x _ hx (by simp [hlt])⟩
    unfold loadVar
    simp only [Sem.run_bind, run_isAgg' hd, ha, Result.andThen_ok, Bool.false_eq_true, if_false, run_load, cell_at hH]
    simp [hlt]

/-- what a store does -/
theorem store_rel {t : Nat} {ti : TI} (ht : tiOf P t = some ti) {g q : Nat} {c : Array Value} {e : TypeId} (hH : w.heap[g]? = some (.cells c e (0, 0))) {x : AV} {u : Value} (hx : VRel M ρ hp x u) (hn : x.noL = true)
    (hs : x.cells.length = ti.size) (hin : q + ti.size ≤ c.size) :
    (storeVar t ⟨g, q, none⟩ u).run P w = .ok () (w.setCells g q u.cells.toList) := by
  obtain ⟨i, z, d, hi, _, _, _, htd, hsz, _, hd, _⟩ := tiOf_some ht
  obtain ⟨h1, h2, h3⟩ := cells_rel hx hn
  have hsize : u.cells.size = i.size := by omega
  have hst := run_storeCells_cells (P := P) g q u.cells.toList 0 w (fun j hj => by rw [Nat.add_zero, cell_at hH]; simp at hj; simp; omega) (fun j hj => by rw [Nat.add_zero, frozen_at hH])
    (fun v hv => by obtain ⟨j, hj⟩ := List.mem_iff_getElem?.1 hv; exact h2 j v (by simpa using hj))
  unfold storeVar
  simp only [Sem.run_bind, run_sizeOf' hi, Result.andThen_ok, hsize, ne_eq, not_true_eq_false, if_false]
  simpa using hst

/-- a row after a store -/
theorem storeRow_get {x : AV} {row : List AV} {q : Nat} (hin : q + x.cells.length ≤ row.length) (hn : x.noL = true) (j : Nat) :
    (storeRow x row q).length = row.length ∧ (storeRow x row q)[j]? = if q ≤ j ∧ j < q + x.cells.length then x.cells[j - q]? else row[j]? := by
  have agg : ∀ cs : List AV, q + cs.length ≤ row.length → (splice row q cs).length = row.length ∧ (splice row q cs)[j]? = if q ≤ j ∧ j < q + cs.length then cs[j - q]? else row[j]? := by
    intro cs hcs
    unfold splice
    by_cases h0 : q = 0 ∧ cs.length = row.length
    · rw [if_pos h0]
      obtain ⟨rfl, h0⟩ := h0
      refine ⟨h0, ?_⟩
      by_cases hj : j < cs.length
      · rw [if_pos (by omega)]; rfl
      · rw [if_neg (by omega), List.getElem?_eq_none (by omega), List.getElem?_eq_none (by omega)]
    · rw [if_neg h0]
      refine ⟨by simp; omega, ?_⟩
      by_cases hj : j < q
      · rw [if_neg (by omega), List.getElem?_append_left (by simp; omega), List.getElem?_take, if_pos hj]
      · rw [List.getElem?_append_right (by simp; omega)]
        have hl : (row.take q).length = q := by simp; omega
        rw [hl]
        by_cases hj2 : j < q + cs.length
        · rw [if_pos (by omega), List.getElem?_append_left (by omega)]
        · rw [if_neg (by omega), List.getElem?_append_right (by omega), List.getElem?_drop]
          congr 1
          omega
  by_cases ha : ∃ cs, x = .agg cs
  · obtain ⟨cs, rfl⟩ := ha
    exact agg cs hin
  · have hx' : x.cells = [x] := by cases x <;> first | rfl | exact absurd ⟨_, rfl⟩ ha
    have hr : storeRow x row q = row.set q x := by cases x <;> first | rfl | exact absurd ⟨_, rfl⟩ ha
    rw [hr, hx']
    rw [hx'] at hin
    simp only [List.length_cons, List.length_nil, Nat.zero_add] at hin ⊢
    refine ⟨by simp, ?_⟩
    rw [List.getElem?_set]
    by_cases hj : q = j
    · subst hj
      rw [if_pos rfl, if_pos (by omega), if_pos (by omega)]
      simp
    · rw [if_neg hj, if_neg (by omega)]

/-- what holds behind an operation -/
def PostE (M : Mem) (ρ : Rho) (β : Nat → Option Nat) (hp : List Blk) (lo : List (Nat × List AV)) (w : World) (dst : Option Nat) (e : Eff) (u : Value) (w' : World) : Prop :=
  ∃ M' ρ' β', SubM M M' ∧ Ext ρ hp ρ' (e.hp.getD hp) ∧ Real M' ρ' β' (e.hp.getD hp) (putL lo e.lo) w'.heap ∧ ERel M' ρ' β' (e.hp.getD hp) e.v u ∧ Adv w w' ∧
    (β' = β ∨ ∃ d g, dst = some d ∧ e.v = .lptr d 0 ∧ β' = upd β d g)

theorem post_value {o : Oper} {a : Act} {e : Eff} {u : Value} (hR : Real M ρ β hp lo w.heap) (h : (execOp a.eval o).run P w = .ok (.value u) w) (hl : e.lo = none) (hh : e.hp = none) (hv : ERel M ρ β hp e.v u) :
    Outs P o a w (PostE M ρ β hp lo w o.dst e) :=
  .value h ⟨M, ρ, β, SubM.refl _, by rw [hh]; exact Ext.refl _ _, by rw [hl, hh]; exact hR, by rw [hh]; exact hv, Adv.refl _, .inl rfl⟩

theorem fresh_some {k t : Nat} {b : Blk} (h : fresh hp k t = some b) : hp[k]? = some b ∧ t = b.rows.length := by
  unfold fresh at h
  cases hb : hp[k]? with
  | none => rw [hb] at h; cases h
  | some b' =>
    rw [hb] at h
    simp only at h
    cases ht : (t == b'.rows.length) with
    | false => rw [ht] at h; cases h
    | true => rw [ht] at h; cases h; exact ⟨rfl, by simpa using ht⟩

/-- a load through whatever points -/
theorem loadA_rel {t : Nat} {p x : AV} {v : Value} (hR : Real M ρ β hp lo w.heap) (hx : loadA (tiOf P) lo hp t p = some x) (hp' : ERel M ρ β hp p v) :
    ∃ u, (Instr.loadAt t v).run P w = .ok u w ∧ VRel M ρ hp x u := by
  unfold loadA at hx
  simp only [Option.bind_eq_some_iff] at hx
  obtain ⟨⟨row, q⟩, hrow, ti, ht, hpart⟩ := hx
  unfold rowAt at hrow
  split at hrow
  · rename_i d c
    simp only [Option.map_eq_some_iff] at hrow
    obtain ⟨r, hr, hrq⟩ := hrow
    cases hrq
    obtain ⟨g, hg, rfl⟩ := hp'.lptr_inv
    obtain ⟨cc, e, hv⟩ := hR.var d g row hg hr
    obtain ⟨u, hu, hru⟩ := load_rel (base := 0) (q := q) ht hv.at_ (fun j u _ hu => hv.one _ u hu) (by rw [hv.size]; omega) (fun j x u hx hu => hv.cells j x u hx (by simpa using hu)) hpart
    exact ⟨u, by simpa [Instr.loadAt, Instr.sureAddr] using hu, hru⟩
  · rename_i r c
    cases hrow
    cases hp'.v (fun _ _ e => by cases e) with
    | vp hM hone hin h =>
      obtain ⟨u, hu, hru⟩ := load_rel (q := q) ht (hR.mem _ _ hM) hone hin h hpart
      exact ⟨u, by simpa [Instr.loadAt, Instr.sureAddr] using hu, hru⟩
  · rename_i k r c tt
    simp only [Option.bind_eq_some_iff, Option.map_eq_some_iff] at hrow
    obtain ⟨b, hb, row', hrow', hrq⟩ := hrow
    cases hrq
    obtain ⟨hb1, hb2⟩ := fresh_some hb
    cases hp'.v (fun _ _ e => by cases e) with
    | @ptr _ _ _ _ _ b' l hb' hl _ _ h =>
      rw [hb1] at hb'
      cases hb'
      rw [h hb2]
      obtain ⟨l', cc, hl', hat⟩ := hR.blk k b hb1
      rw [hl] at hl'
      cases hl'
      have hrl := hat.len row (List.mem_of_getElem? hrow')
      have hri : r < b.rows.length := (List.getElem?_eq_some_iff.1 hrow').1
      have hroom : (r + 1) * b.sz ≤ b.rows.length * b.sz := Nat.mul_le_mul_right _ (by omega)
      rw [Nat.succ_mul] at hroom
      obtain ⟨u, hu, hru⟩ := load_rel (base := r * b.sz) (q := q) ht hat.at_ (fun j u _ hu => hat.one _ u hu) (by rw [hrl, hat.size]; have := hat.room; omega) (fun j x u hx hu => hat.rows r row j x u hrow' hx hu) hpart
      exact ⟨u, by simpa [Instr.loadAt, Instr.sureAddr] using hu, hru⟩
  · cases hrow

/-- a store -/
theorem storeA_rel {t n0 : Nat} {p x : AV} {v u : Value} {e : Eff} (hR : Real M ρ β hp lo w.heap) (he : storeA (tiOf P) lo hp n0 t p x = some e) (hp' : ERel M ρ β hp p v) (hx : ERel M ρ β hp x u) (dst : Option Nat) :
    ∃ w', (Instr.storeAt t v u).run P w = .ok () w' ∧ PostE M ρ β hp lo w dst e undef w' := by
  unfold storeA at he
  split at he
  · rename_i ti ht
    split at he
    · rename_i hc
      obtain ⟨hn, hs⟩ := hc
      have hxv := hx.noL hn
      obtain ⟨k1, k2, k3⟩ := cells_rel hxv hn
      split at he
      · -- a slot's variable
        rename_i d q
        split at he
        · rename_i row hrow
          split at he
          · rename_i hin
            cases he
            obtain ⟨g, hg, rfl⟩ := hp'.lptr_inv
            obtain ⟨c, ty, hv⟩ := hR.var d g row hg hrow
            have hst := store_rel ht hv.at_ hxv hn hs (q := q) (by rw [hv.size]; exact hin)
            obtain ⟨c', hc1, hc2, hc3⟩ := setCells_at g u.cells.toList q w c ty hv.at_ (by simp; rw [hv.size]; omega)
            obtain ⟨_, _, _, f4, f5⟩ := setCells_frame g u.cells.toList q w
            refine ⟨_, by simpa [Instr.storeAt, Instr.sureAddr] using hst, M, ρ, β, SubM.refl _, Ext.refl _ _, ?_, .inr (.undef _), Adv.setCells _ _ _ _, .inl rfl⟩
            have hsr := fun j => storeRow_get (x := x) (row := row) (q := q) (by omega) hn j
            refine hR.setVar hg (by rw [f4]; exact Nat.le_refl _) (fun i _ hi => f5 i hi) hv.free hc1 (by rw [hc2, hv.size, (hsr 0).1]) ?_ ?_
            · intro j y hj
              rw [hc3] at hj
              split at hj
              · exact k2 _ _ (by simpa using hj)
              · exact hv.one _ _ hj
            · intro j y z hy hz
              rw [hc3] at hz
              rw [(hsr j).2] at hy
              simp only [Array.length_toList, k1] at hz
              split at hz
              · rename_i hj
                rw [if_pos hj] at hy
                exact k3 _ _ _ hy (by simpa using hz)
              · rename_i hj
                rw [if_neg hj] at hy
                exact hv.cells _ _ _ hy hz
          · cases he
        · cases he
      · -- a cell of a block
        rename_i k r q tt
        split at he
        · rename_i b hb
          split at he
          · rename_i row hrow
            split at he
            · rename_i hin
              cases he
              obtain ⟨hb1, hb2⟩ := fresh_some hb
              cases hp'.v (fun _ _ e => by cases e) with
              | @ptr _ _ _ _ _ b' l hb' hl _ _ h =>
                rw [hb1] at hb'
                cases hb'
                rw [h hb2]
                obtain ⟨l', c, hl', hat⟩ := hR.blk k b hb1
                rw [hl] at hl'
                cases hl'
                have hrl := hat.len row (List.mem_of_getElem? hrow)
                have hri : r < b.rows.length := (List.getElem?_eq_some_iff.1 hrow).1
                have hroom : (r + 1) * b.sz ≤ b.rows.length * b.sz := Nat.mul_le_mul_right _ (by omega)
                rw [Nat.succ_mul] at hroom
                have hfit : r * b.sz + q + ti.size ≤ c.size := by rw [hat.size]; have := hat.room; omega
                have hst := store_rel ht hat.at_ hxv hn hs (q := r * b.sz + q) hfit
                obtain ⟨c', hc1, hc2, hc3⟩ := setCells_at l.blk u.cells.toList (r * b.sz + q) w c b.e hat.at_ (by simp; omega)
                obtain ⟨_, _, _, f4, f5⟩ := setCells_frame l.blk u.cells.toList (r * b.sz + q) w
                have hsr := fun j => storeRow_get (x := x) (row := row) (q := q) (by omega) hn j
                have hkl : k < hp.length := (List.getElem?_eq_some_iff.1 hb1).1
                have hE : Ext ρ hp (upd ρ k l) (hp.set k { b with rows := b.rows.set r (storeRow x row q) }) := Ext.set (b' := { b with rows := b.rows.set r (storeRow x row q) }) hb1 hl rfl (by simp) (fun _ => rfl)
                refine ⟨_, by simpa [Instr.storeAt, Instr.sureAddr] using hst, M, upd ρ k l, β, SubM.refl _, hE, ?_, .inr (.undef _), Adv.setCells _ _ _ _, .inl rfl⟩
                refine hR.setBlk (b' := { b with rows := b.rows.set r (storeRow x row q) }) (l' := l) hb1 hl rfl (by simp) (fun _ => rfl) (by rw [f4]; exact Nat.le_refl _) (fun i _ hi => f5 i hi) (.inl rfl) hc1 (by rw [hc2, hat.size]) (by simpa using hat.room) ?_ ?_ ?_
                · intro row' hrow'
                  rcases List.mem_or_eq_of_mem_set hrow' with h1 | h1
                  · exact hat.len _ h1
                  · rw [h1, (hsr 0).1, hrl]
                · intro j y hj
                  rw [hc3] at hj
                  split at hj
                  · exact k2 _ _ (by simpa using hj)
                  · exact hat.one _ _ hj
                · intro i' row' j y z hri' hy hz
                  show VRel M (upd ρ k l) _ y z
                  have hz0 : c'[i' * b.sz + j]? = some z := hz
                  rw [hc3] at hz0
                  simp only [Array.length_toList, k1, hs] at hz0
                  have hri'' : (b.rows.set r (storeRow x row q))[i']? = some row' := hri'
                  rw [List.getElem?_set] at hri''
                  by_cases hir : r = i'
                  · subst hir
                    rw [if_pos rfl, if_pos hri] at hri''
                    cases hri''
                    rw [(hsr j).2, hs] at hy
                    by_cases hj : q ≤ j ∧ j < q + ti.size
                    · rw [if_pos hj] at hy
                      rw [if_pos (by omega), show r * b.sz + j - (r * b.sz + q) = j - q by omega] at hz0
                      exact (k3 _ _ _ hy (by simpa using hz0)).mono (SubM.refl _) hE
                    · rw [if_neg hj] at hy
                      rw [if_neg (by omega)] at hz0
                      exact (hat.rows r row j y z hrow hy hz0).mono (SubM.refl _) hE
                  · rw [if_neg hir] at hri''
                    have hl' := hat.len row' (List.mem_of_getElem? hri'')
                    have hj' : j < b.sz := by have := (List.getElem?_eq_some_iff.1 hy).1; omega
                    have hnot : ¬ (r * b.sz + q ≤ i' * b.sz + j ∧ i' * b.sz + j < r * b.sz + q + ti.size) := by
                      rintro ⟨a1, a2⟩
                      rcases Nat.lt_or_gt_of_ne hir with h1 | h1
                      · have := Nat.mul_le_mul_right b.sz (show r + 1 ≤ i' by omega)
                        rw [Nat.succ_mul] at this
                        omega
                      · have := Nat.mul_le_mul_right b.sz (show i' + 1 ≤ r by omega)
                        rw [Nat.succ_mul] at this
                        omega
                    rw [if_neg hnot] at hz0
                    exact (hat.rows i' row' j y z hri'' hy hz0).mono (SubM.refl _) hE
            · cases he
          · cases he
        · cases he
      · cases he
    · cases he
  · cases he

end
end Go.Proofs.Ytjdciikfbinchaa.Abs
