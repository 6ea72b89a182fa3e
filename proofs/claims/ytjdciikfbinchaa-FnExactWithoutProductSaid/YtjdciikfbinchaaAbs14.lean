/- The abstract machine: what every operation does is so. -/
import Derived.Test.YtjdciikfbinchaaAbs13
namespace Go.Proofs.Ytjdciikfbinchaa.Abs
open Go

section
variable {P : Program} {M : Mem} {ρ : Rho} {β : Nat → Option Nat} {w : World} {st : St} {a : Act} {o : Oper} {e : Eff}

/-- every slot holds what is told of it -/
def EnvR (M : Mem) (ρ : Rho) (β : Nat → Option Nat) (hp : List Blk) (env : List (Nat × AV)) (tmps : Array Value) : Prop := ∀ t, ERel M ρ β hp (get env t) (tmps.getD t undef)

theorem pick_rel {hp : List Blk} {c x y r : AV} {vc vx vy : Value} (h : pickA c x y = some r) (hc : ERel M ρ β hp c vc) (hx : ERel M ρ β hp x vx) (hy : ERel M ρ β hp y vy) :
    ∃ u, ((do pure (if ← asBool vc then vx else vy)) : Sem Value).run P w = .ok u w ∧ ERel M ρ β hp r u := by
  unfold pickA at h
  split at h
  · rename_i t p q
    cases h
    rw [hc.bool_inv, hx.bool_inv, hy.bool_inv]
    exact ⟨.bool (bif t then p else q), by cases t <;> simp [asBool], .inr (.bool _)⟩
  · rename_i t _
    cases h
    rw [hc.bool_inv]
    cases t with
    | true => exact ⟨vx, by simp [asBool], by simpa using hx⟩
    | false => exact ⟨vy, by simp [asBool], by simpa using hy⟩
  · cases h

theorem eff_sound {rec : Rec} {cfg : Cfg} (hrec : RecSound P rec) (hR : Real M ρ β st.hp st.lo w.heap) (hE : EnvR M ρ β st.hp st.env a.tmps) (h : eff (tiOf P) rec cfg o st = some e) :
    Outs P o a w (PostE M ρ β st.hp st.lo w o.dst e) := by
  have op1 : ∀ {x : Operand} {v : AV}, opd st.env x = some v → ERel M ρ β st.hp v (a.eval x) := fun hv => opd_rel hv fun t _ => hE t
  unfold eff at h
  cases ho : o.op with
  | move x =>
    rw [ho] at h
    obtain ⟨v, hv, rfl⟩ := val_some h
    exact post_of hR (u := a.eval x) (by simp [execOp, ho]) (op1 hv)
  | assign x =>
    rw [ho] at h
    obtain ⟨v, hv, rfl⟩ := val_some h
    exact post_of hR (u := a.eval x) (by simp [execOp, ho]) (op1 hv)
  | pick c x y =>
    rw [ho] at h
    simp only [Option.bind_eq_some_iff] at h
    obtain ⟨vc, hc, vx, hx, vy, hy, h⟩ := h
    obtain ⟨v, hv, rfl⟩ := val_some h
    obtain ⟨u, hu, hr⟩ := pick_rel (P := P) (w := w) hv (op1 hc) (op1 hx) (op1 hy)
    refine post_of hR (u := u) ?_ hr
    simp only [Sem.run_bind, Sem.run_pure] at hu
    simp only [execOp, ho, Sem.run_bind, Sem.run_pure]
    cases hb : (asBool (a.eval c)).run P w with
    | ok t w' => rw [hb] at hu; simp only [Result.andThen_ok, Result.ok.injEq] at hu ⊢; exact ⟨by rw [hu.1], hu.2⟩
    | _ => rw [hb] at hu; simp [Result.andThen] at hu
  | alloc el =>
    rw [ho] at h
    simp only [Option.bind_eq_some_iff] at h
    obtain ⟨ti, hti, h⟩ := h
    obtain ⟨i, z, d, hi, hz, hzc, hzl, htd, hsz, hby, hd, _⟩ := tiOf_some hti
    obtain ⟨z1, z2, z3⟩ := zero_rel (M := M) (ρ := ρ) (hp := st.hp) hzc hzl
    refine .value ?_ (varA_rel hR h (c := z.cells) (by rw [z1, hzl]) z2 z3)
    simp [execOp, ho, Instr.alloc, run_zeroValue' hi hz, newVar, newRow]
  | box el x =>
    rw [ho] at h
    simp only [Option.bind_eq_some_iff] at h
    obtain ⟨ti, hti, v, hv, h⟩ := h
    split at h
    · rename_i hc
      obtain ⟨z1, z2, z3⟩ := cells_rel ((op1 hv).noL hc.1) hc.1
      refine .value ?_ (varA_rel hR h (c := (a.eval x).cells) z1 z2 z3)
      simp [execOp, ho, Instr.box, newVar, newRow]
    · cases h
  | build t parts =>
    rw [ho] at h
    simp only [Option.bind_eq_some_iff] at h
    obtain ⟨ps, hps, h⟩ := h
    obtain ⟨v, hv, rfl⟩ := val_some h
    simp only [Option.map_eq_some_iff] at hv
    obtain ⟨cs, hcs, rfl⟩ := hv
    obtain ⟨l1, l2⟩ := opds_rel (M := M) (ρ := ρ) (β := β) (hp := st.hp) (a := a) parts.toList ps hps fun t _ => hE t
    obtain ⟨c, hu, hr⟩ := build_rel (w := w) (us := parts.map fun (i, x) => (i, a.eval x)) hcs (by simpa using l1) (by simpa using l2)
    exact post_of hR (u := .agg c) (by simp [execOp, ho, hu]) (.inr hr)
  | buildSlice t len parts =>
    rw [ho] at h
    simp only [Option.bind_eq_some_iff] at h
    obtain ⟨⟨el, te⟩, he, ps, hps, h⟩ := h
    simp only at h
    split at h
    · rename_i hc
      obtain ⟨hpos, hlen, hsz⟩ := hc
      simp only [Option.bind_eq_some_iff] at h
      obtain ⟨rows, hrows, h⟩ := h
      obtain ⟨l1, l2⟩ := opds_rel (M := M) (ρ := ρ) (β := β) (hp := st.hp) (a := a) parts.toList ps hps fun t _ => hE t
      obtain ⟨c, hu, hcs, hrl, hrow, hone, hrows'⟩ := buildSlice_rel (w := w) (us := parts.map fun (i, x) => (i, a.eval x)) he hrows ⟨hlen, hsz⟩ (by simpa using l1) (by simpa using l2)
      refine .value (u := .slice (some ⟨w.heap.size, 0, none⟩) len len) (w' := w.alloc (.cells c el)) (by simp [execOp, ho, hu]) ?_
      cases hvt : cfg.virt.contains (o.dst.getD 0) with
      | true =>
        rw [hvt] at h
        cases h
        obtain ⟨hR', hM'⟩ := hR.frozen (.cells c el (0, 0))
        refine ⟨_, ρ, β, hM', Ext.refl _ _, hR', .inr ?_, ⟨rfl, rfl, rfl, by simp⟩, .inl rfl⟩
        rw [← hrl]
        refine .vs (upd_same _ _ _) hone (Nat.le_refl _) hrow (by rw [hcs, hrl]; omega) fun i row j x u h1 h2 h3 => (hrows' i row j x u h1 h2 (by simpa using h3)).mono hM' (Ext.refl _ _)
      | false =>
        rw [hvt] at h
        cases h
        have hR' := hR.snoc ⟨el, te.size, rows⟩ c hpos (by rw [hcs, hrl]; exact Nat.le_refl _) hrow hone hrows'
        refine ⟨M, _, β, SubM.refl _, Ext.snoc _ _, hR', .inr ?_, ⟨rfl, rfl, rfl, by simp⟩, .inl rfl⟩
        exact .sl (b := ⟨el, te.size, rows⟩) (l := ⟨w.heap.size, c.size⟩) (by simp) (upd_same _ _ _) (by rw [hrl]; exact Nat.le_refl _) rfl fun _ => ⟨0, len, rfl, Nat.le_refl _, fun _ => by simp, fun _ => by simp [hcs]⟩
    · cases h
  | load t p =>
    rw [ho] at h
    simp only [Option.bind_eq_some_iff] at h
    obtain ⟨vp, hp, h⟩ := h
    obtain ⟨v, hv, rfl⟩ := val_some h
    obtain ⟨u, hu, hr⟩ := loadA_rel hR hv (op1 hp)
    exact post_of hR (u := u) (by simp [execOp, ho, hu]) (.inr hr)
  | store t p x =>
    rw [ho] at h
    simp only [Option.bind_eq_some_iff] at h
    obtain ⟨vp, hp, vx, hx, h⟩ := h
    obtain ⟨w', hu, hr⟩ := storeA_rel hR h (op1 hp) (op1 hx) o.dst
    exact .skip (w' := w') (by simp [execOp, ho, hu]) hr
  | nilCheck x =>
    rw [ho] at h
    simp only [Option.bind_eq_some_iff] at h
    obtain ⟨v, hv, h⟩ := h
    have hr := op1 hv
    split at h
    · cases h
      obtain ⟨g, hg, he⟩ := hr.lptr_inv
      exact post_of hR (u := a.eval x) (by simp [execOp, ho, he]) hr
    · cases h
      refine post_of hR (u := a.eval x) ?_ hr
      generalize hvx : a.eval x = v at hr
      cases hr.v (fun _ _ e => by cases e)
      simp [execOp, ho, hvx]
    · simp only [Option.map_eq_some_iff] at h
      obtain ⟨b, hb, rfl⟩ := h
      refine post_of hR (u := a.eval x) ?_ hr
      obtain ⟨hb1, hb2⟩ := fresh_some hb
      generalize hvx : a.eval x = v at hr
      cases hr.v (fun _ _ e => by cases e) with
      | @ptr _ _ _ _ _ b' pl hb' hl hle _ hpt =>
        rw [hb1] at hb'
        cases hb'
        rw [hpt hb2] at hvx ⊢
        simp [execOp, ho, hvx]
    · cases h
      refine post_of hR (u := a.eval x) ?_ hr
      generalize hvx : a.eval x = v at hr
      cases hr.v (fun _ _ e => by cases e)
      simp [execOp, ho, hvx]
    · cases h
  | binOp op t x y z =>
    rw [ho] at h
    simp only [Option.bind_eq_some_iff] at h
    obtain ⟨vx, hx, vy, hy, h⟩ := h
    obtain ⟨v, hv, rfl⟩ := val_some h
    have hvx : vx.noL = true := by unfold binT at hv; split at hv <;> first | rfl | (unfold binA at hv; split at hv <;> first | rfl | cases hv)
    have hvy : vy.noL = true := by unfold binT at hv; split at hv <;> first | rfl | (unfold binA at hv; split at hv <;> first | rfl | cases hv)
    obtain ⟨u, hu, hr⟩ := binT_rel (P := P) (w := w) (t := t) (ox := x) (oy := y) hv (fun ls hls => by
      simp only [Option.bind_eq_some_iff] at hls
      obtain ⟨ti, hti, hl⟩ := hls
      obtain ⟨i, z, d, hi, hz, hzc, hzl, htd, hsz, hby, hd, hlf⟩ := tiOf_some hti
      exact hlf ls hl) (fun ti hti hd => by
      obtain ⟨i, z, d, hi, hz, hzc, hzl, htd, hsz, hby, hd', hlf⟩ := tiOf_some hti
      obtain ⟨_, _, hbl, _⟩ := tyOf_eq (P := P) (t := t)
      exact hbl (by rw [← htd]; exact hd)) ((op1 hx).noL hvx) ((op1 hy).noL hvy)
    exact post_of hR (u := u) (by simp only [execOp, ho]; rw [Sem.run_bind, hu]; simp) (.inr hr)
  | unOp op t x =>
    rw [ho] at h
    simp only [Option.bind_eq_some_iff] at h
    obtain ⟨vx, hx, h⟩ := h
    obtain ⟨v, hv, rfl⟩ := val_some h
    have hvx : vx.noL = true := by unfold unA at hv; split at hv <;> first | rfl | cases hv
    obtain ⟨u, hu, hr⟩ := un_rel (P := P) (w := w) hv ((op1 hx).noL hvx)
    exact post_of hR (u := u) (by simp [execOp, ho, hu]) (.inr hr)
  | convert s d x =>
    rw [ho] at h
    simp only [Option.bind_eq_some_iff] at h
    obtain ⟨vx, hx, h⟩ := h
    obtain ⟨v, hv, rfl⟩ := val_some h
    obtain ⟨u, hu, hr⟩ := conv_rel hR hv (op1 hx)
    exact post_of hR (u := u) (by simp [execOp, ho, hu]) (.inr hr)
  | makeFunc fn first captured =>
    rw [ho] at h
    cases fn with
    | func f =>
      simp only at h
      split at h
      · rename_i hf
        simp only [Option.bind_eq_some_iff] at h
        obtain ⟨vs, hvs, h⟩ := h
        cases hL : allNoL vs with
        | false => rw [hL] at h; cases h
        | true =>
          rw [hL] at h
          cases h
          obtain ⟨h1, h2⟩ := args_vals (M := M) (ρ := ρ) (β := β) (hp := st.hp) (a := a) hvs fun t _ => hE t
          have hf0 : first = #[] := by simpa using hf
          refine post_of hR (u := .func (.func f) #[] (captured.map a.eval)) (by simp [execOp, ho, Instr.makeFunc, hf0]) (.inr (.fn h1 fun j x u hx hu => (h2 j x u hx hu).noL (allNoL_get vs hL j x hx)))
      · cases h
    | _ => cases h
  | makeSlice t l c =>
    rw [ho] at h
    simp only [Option.bind_eq_some_iff] at h
    obtain ⟨⟨el, te⟩, he, vl, hl, vc, hc, h⟩ := h
    have hl' := op1 hl
    have hc' := op1 hc
    split at h
    · rename_i n m
      simp only at h
      split at h
      · rename_i hcnd
        obtain ⟨hpos, hb, h0, rfl, hn⟩ := hcnd
        cases h
        obtain ⟨c', hu, hcs, hone, hrow, hrows⟩ := makeSlice_rel (M := M) (ρ := ρ) (hp := st.hp) (w := w) he hpos hb h0 hn
        refine .value (u := .slice (some ⟨w.heap.size, 0, none⟩) n.toNat n.toNat) (w' := w.alloc (.cells c' el)) (by simp [execOp, ho, hl'.int_inv, hc'.int_inv, hu]) ?_
        have hR' := hR.snoc ⟨el, te.size, List.replicate n.toNat te.zero⟩ c' hpos (by rw [hcs]; simp) hrow hone hrows
        refine ⟨M, _, β, SubM.refl _, Ext.snoc _ _, hR', .inr ?_, ⟨rfl, rfl, rfl, by simp⟩, .inl rfl⟩
        exact .sl (b := ⟨el, te.size, List.replicate n.toNat te.zero⟩) (l := ⟨w.heap.size, c'.size⟩) (by simp) (upd_same _ _ _) (by simp) rfl fun _ => ⟨0, n.toNat, rfl, Nat.le_refl _, fun _ => by simp, fun _ => by simp [hcs]⟩
      · cases h
    · cases h
  | slice t x lo hi mx =>
    rw [ho] at h
    simp only [Option.bind_eq_some_iff] at h
    obtain ⟨vx, hx, l1, hl1, l2, hl2, l3, hl3, h⟩ := h
    obtain ⟨v, hv, rfl⟩ := val_some h
    obtain ⟨u, hu, hr⟩ := slice_rel (w := w) hv (op1 hx) (optI_rel (a := a) hl1 fun t _ => hE t) (optI_rel (a := a) hl2 fun t _ => hE t) (optI_rel (a := a) hl3 fun t _ => hE t)
    exact post_of hR (u := u) (by simp [execOp, ho, hu]) (.inr hr)
  | fieldAddr s x f =>
    rw [ho] at h
    simp only [Option.bind_eq_some_iff] at h
    obtain ⟨vx, hx, h⟩ := h
    obtain ⟨v, hv, rfl⟩ := val_some h
    obtain ⟨u, hu, hr⟩ := fieldAddr_rel (w := w) hv (op1 hx)
    exact post_of hR (u := u) (by simp [execOp, ho, hu]) hr
  | field s x f =>
    rw [ho] at h
    simp only [Option.bind_eq_some_iff] at h
    obtain ⟨vx, hx, h⟩ := h
    obtain ⟨v, hv, rfl⟩ := val_some h
    obtain ⟨u, hu, hr⟩ := field_rel (w := w) hv (op1 hx)
    exact post_of hR (u := u) (by simp [execOp, ho, hu]) (.inr hr)
  | indexAddr t x i =>
    rw [ho] at h
    simp only [Option.bind_eq_some_iff] at h
    obtain ⟨vx, hx, vi, hi, h⟩ := h
    obtain ⟨v, hv, rfl⟩ := val_some h
    obtain ⟨u, hu, hr⟩ := indexAddr_rel (w := w) hv (op1 hx) (op1 hi)
    exact post_of hR (u := u) (by simp [execOp, ho, hu]) hr
  | index t x i =>
    rw [ho] at h
    simp only [Option.bind_eq_some_iff] at h
    obtain ⟨vx, hx, vi, hi, h⟩ := h
    obtain ⟨v, hv, rfl⟩ := val_some h
    obtain ⟨u, hu, hr⟩ := index_rel (w := w) hv (op1 hx) (op1 hi)
    exact post_of hR (u := u) (by simp [execOp, ho, hu]) (.inr hr)
  | extract x i =>
    rw [ho] at h
    simp only [Option.bind_eq_some_iff] at h
    obtain ⟨vx, hx, h⟩ := h
    split at h
    · rename_i vs
      obtain ⟨v, hv, rfl⟩ := val_some h
      have hr := op1 hx
      generalize hvx : a.eval x = u at hr
      cases hr.v (fun _ _ e => by cases e) with
      | @tup _ c hs hrel =>
        have hlt : i < c.size := by rw [hs]; exact (List.getElem?_eq_some_iff.1 hv).1
        exact post_of hR (u := c[i]) (by simp [execOp, ho, hvx, Instr.extract, hlt]) (.inr (hrel i v _ hv (by simp [hlt])))
    · cases h
  | call c =>
    rw [ho] at h
    simp only [Option.bind_eq_some_iff] at h
    obtain ⟨vs, hvs, h⟩ := h
    obtain ⟨h1, h2⟩ := args_vals (M := M) (ρ := ρ) (β := β) (hp := st.hp) (a := a) hvs fun t _ => hE t
    split at h
    · rename_i f hc
      refine call_sound hrec hR h h1 h2 fun fn hf hb hn => ?_
      have := run_callFunc (xs := #[] ++ c.args.map a.eval ++ #[]) (w := w) hf hb hn
      simp only [execOp, ho, resolve, hc, Act.eval, Deferred.ofValue, Sem.run_bind, Sem.run_pure, Result.andThen_ok, invoke]
      simpa using this
    · rename_i x _ hc
      simp only [Option.bind_eq_some_iff] at h
      obtain ⟨v, hv, h⟩ := h
      have hr := op1 hv
      split at h
      · rename_i f caps
        generalize hvx : a.eval x = u at hr
        cases hr.v (fun _ _ e => by cases e) with
        | @fn _ _ cc hs hrel =>
          refine call_sound hrec hR h (xs := c.args.map a.eval ++ cc) (by simp [hs]; simpa using h1) (fun j x u hx hu => ?_) fun fn hf hb hn => ?_
          · by_cases hj : j < vs.length
            · rw [List.getElem?_append_left hj] at hx
              rw [Array.getElem?_append_left (by rw [h1]; exact hj)] at hu
              exact h2 j x u hx hu
            · rw [List.getElem?_append_right (by omega)] at hx
              rw [Array.getElem?_append_right (by rw [h1]; omega), h1] at hu
              exact .inr (hrel _ x u hx hu)
          · have := run_callFunc (xs := #[] ++ c.args.map a.eval ++ cc) (w := w) hf hb hn
            simp only [execOp, ho, resolve, hc, hvx, Deferred.ofValue, Sem.run_bind, Sem.run_pure, Result.andThen_ok, invoke]
            simpa using this
      · cases h
    · rename_i b hc
      exact builtin_sound hR ho hc h h1 h2
    · cases h
  | _ => rw [ho] at h; cases h

end
end Go.Proofs.Ytjdciikfbinchaa.Abs
