/- The abstract machine tells the truth: what it gives for a call, the call gives. -/
import Derived.Test.YtjdciikfbinchaaAbs22
namespace Go.Proofs.Ytjdciikfbinchaa.Abs
open Go

section
variable {P : Program} {M M' : Mem} {ρ ρ' : Rho} {β : Nat → Option Nat} {hp : List Blk} {lo : List (Nat × List AV)} {H H' : Array Obj}

theorem out_sound {st : St} {r v : AV} {u : Value} {hp' : List Blk} {c : Nat} (hR0 : Real M ρ β hp lo H) (hE : Ext ρ hp ρ' st.hp) (hR : Real M' ρ' β st.hp lo H') (hn : st.n0 = hp.length) (hle : hp.length ≤ st.hp.length)
    (hkeep : st.cl = true → ∀ k, k < hp.length → st.hp[k]? = hp[k]?) (hv : VRel M' ρ' st.hp r u) (h : out st r = (v, hp', c)) : ∃ ρ'', Ext ρ hp ρ'' hp' ∧ Real M' ρ'' β hp' lo H' ∧ VRel M' ρ'' hp' v u := by
  unfold out at h
  cases hcl : st.cl with
  | false => rw [hcl] at h; cases h; exact ⟨ρ', hE, hR, hv⟩
  | true =>
    have hkeep := hkeep hcl
    rw [hcl, hn] at h
    simp only [cond_true] at h
    have tk : ∀ k, (st.hp.take hp.length)[k]? = if k < hp.length then st.hp[k]? else none := fun k => by rw [List.getElem?_take]
    have take : (∀ i ∈ refs r, i < hp.length) → ∃ ρ'', Ext ρ hp ρ'' (st.hp.take hp.length) ∧ Real M' ρ'' β (st.hp.take hp.length) lo H' ∧ VRel M' ρ'' (st.hp.take hp.length) r u := by
      intro hr
      have same : ∀ i, i < hp.length → (st.hp.take hp.length)[i]? = st.hp[i]? ∧ (fun i => if i < hp.length then ρ' i else none) i = ρ' i := fun i hi => ⟨by rw [tk, if_pos hi], by simp [hi]⟩
      refine ⟨fun i => if i < hp.length then ρ' i else none, fun k b l hb hl => ?_, hR.some_of (fun k b hk => ?_) (fun k k' l l' h1 h2 he => ?_) (fun k l h1 => ?_) (fun k l h1 => ?_) fun d g cs hd hl i hi => same i (hR0.var_there hd hl hi), hv.loc fun i hi => same i (hr i hi)⟩
      · have hk := (List.getElem?_eq_some_iff.1 hb).1
        obtain ⟨b', l', h1, h2, h3, h4, h5⟩ := hE k b l hb hl
        have hbb : b' = b := by rw [hkeep k hk, hb] at h1; exact (Option.some.inj h1).symm
        subst hbb
        exact ⟨b', l', by rw [tk, if_pos hk]; exact h1, by simp [hk, h2], rfl, Nat.le_refl _, fun _ => h5 rfl⟩
      · rw [tk] at hk
        split at hk
        · rename_i hlt
          obtain ⟨l, c, hl, _⟩ := hR.blk k b hk
          refine ⟨k, l, hk, hl, by simp [hlt, hl], fun row hrow i hi => same i ?_⟩
          exact hR0.rows_there (k := k) (b := b) (by rw [← hkeep k hlt]; exact hk) hrow hi
        · cases hk
      · split at h1
        · split at h2
          · exact hR.inj k k' l l' h1 h2 he
          · cases h2
        · cases h1
      · split at h1
        · rename_i hlt; rw [List.length_take]; omega
        · cases h1
      · split at h1
        · exact ⟨k, h1⟩
        · cases h1
    split at h
    · rename_i hr
      cases h
      exact take fun i hi => by rw [hr] at hi; cases hi
    · split at h
      · rename_i k ht
        split at h
        · rename_i hk0
          split at h
          · rename_i b hb
            split at h
            · rename_i hbr
              cases h
              have ap : ∀ i, (st.hp.take hp.length ++ [b])[i]? = if i < hp.length then st.hp[i]? else if i = hp.length then some b else none := fun i => by
                by_cases h1 : i < hp.length
                · rw [if_pos h1, List.getElem?_append_left (by rw [List.length_take]; omega), tk, if_pos h1]
                · rw [if_neg h1, List.getElem?_append_right (by rw [List.length_take]; omega)]
                  have : (st.hp.take hp.length).length = hp.length := by rw [List.length_take]; omega
                  rw [this]
                  by_cases h2 : i = hp.length
                  · simp [h2]
                  · rw [if_neg h2, List.getElem?_eq_none (by simp; omega)]
              have same : ∀ i, i < hp.length → (st.hp.take hp.length ++ [b])[i]? = st.hp[i]? ∧ (fun i => if i < hp.length then ρ' i else if i = hp.length then ρ' k else none) i = ρ' i := fun i hi => ⟨by rw [ap, if_pos hi], by simp [hi]⟩
              refine ⟨fun i => if i < hp.length then ρ' i else if i = hp.length then ρ' k else none, fun k' b l hb hl => ?_, hR.some_of (fun k' b' hk' => ?_) (fun k1 k2 l l' h1 h2 he => ?_) (fun k' l h1 => ?_) (fun k' l h1 => ?_) fun d g cs hd hl i hi => same i (hR0.var_there hd hl hi), ?_⟩
              · have hk := (List.getElem?_eq_some_iff.1 hb).1
                obtain ⟨b', l', h1, h2, h3, h4, h5⟩ := hE k' b l hb hl
                have hbb : b' = b := by rw [hkeep k' hk, hb] at h1; exact (Option.some.inj h1).symm
                subst hbb
                exact ⟨b', l', by rw [ap, if_pos hk]; exact h1, by simp [hk, h2], rfl, Nat.le_refl _, fun _ => h5 rfl⟩
              · rw [ap] at hk'
                split at hk'
                · rename_i hlt
                  obtain ⟨l, c, hl, _⟩ := hR.blk k' b' hk'
                  refine ⟨k', l, hk', hl, by simp [hlt, hl], fun row hrow i hi => same i ?_⟩
                  exact hR0.rows_there (k := k') (b := b') (by rw [← hkeep k' hlt]; exact hk') hrow hi
                · split at hk'
                  · rename_i hne heq
                    cases hk'
                    obtain ⟨l, c, hl, _⟩ := hR.blk k b hb
                    refine ⟨k, l, hb, hl, by simp [heq, hl], fun row hrow i hi => ?_⟩
                    obtain ⟨q, hq⟩ := List.mem_iff_getElem?.1 hrow
                    have := refsR_mem hq i hi
                    rw [hbr] at this
                    cases this
                  · cases hk'
              · split at h1
                · split at h2
                  · exact hR.inj k1 k2 l l' h1 h2 he
                  · split at h2
                    · have := hR.inj k1 k l l' h1 h2 he; omega
                    · cases h2
                · split at h1
                  · split at h2
                    · have := hR.inj k k2 l l' h1 h2 he; omega
                    · split at h2
                      · omega
                      · cases h2
                  · cases h1
              · rw [List.length_append, List.length_take]
                split at h1
                · simp; omega
                · split at h1
                  · simp; omega
                  · cases h1
              · split at h1
                · exact ⟨k', h1⟩
                · split at h1
                  · exact ⟨k, h1⟩
                  · cases h1
              · exact (ren_rel (k := k) (k' := hp.length) (by rw [ap, if_neg (Nat.lt_irrefl _), if_pos rfl, hb]) (by simp) hv [k] ht).2 (by simp)
            · cases h; exact ⟨ρ', hE, hR, hv⟩
          · cases h; exact ⟨ρ', hE, hR, hv⟩
        · rename_i hk0
          cases h
          have hrf := (ren_rel (ρ' := ρ') (hp' := st.hp) (k := k) (k' := k) rfl rfl hv [k] ht).1
          exact take fun i hi => by rw [hrf] at hi; simp at hi; omega
      · cases h; exact ⟨ρ', hE, hR, hv⟩

/-- the functions that have a body are called by that body -/
def Plain (P : Program) : Prop := ∀ (f : Nat) (fn : Func), P.funcs[f]? = some fn → fn.body.isSome = true → (fn.name == "runtime.NumGoroutine") = false

/-- CALLS. -/
theorem evalF_sound (cfg : Cfgs) (hm : P.follows .mixedOrders = true) (hpl : Plain P) (hko : Keeps cfg.ora) (hora : RecSound P cfg.ora) : ∀ n, RecSound P (evalF P cfg n)
  | 0 => fun _ _ _ _ _ _ h => by cases h
  | n + 1 => by
    intro f vs hp v hp' c h hL
    rw [evalF_succ] at h
    cases ho : cfg.ora f vs hp with
    | some y =>
      rw [ho] at h
      cases h
      exact hora f vs hp v hp' c ho hL
    | none =>
    rw [ho] at h
    simp only at h
    cases hf : P.funcs[f]? with
    | none => rw [hf] at h; cases h
    | some fn =>
      rw [hf] at h
      simp only at h
      cases hb : fn.body with
      | none => rw [hb] at h; cases h
      | some k =>
        rw [hb] at h
        simp only at h
        refine ⟨⟨fn, by first | rfl | exact hf, by rw [hb]; rfl, hpl f fn hf (by rw [hb]; rfl)⟩, fun M ρ β lo w xs hR hl hx => ?_⟩
        cases hk : codeOk (max fn.ntmps vs.length) k with
        | false => rw [hk] at h; cases h
        | true =>
          rw [hk] at h
          simp only [cond_true] at h
          have hG := enter_good (max fn.ntmps vs.length) fn.ntmps vs xs rfl hR hl hx
          have fin : ∀ {x : Ex} {st : St}, evalC (tiOf P) n (evalF P cfg n) (cfg f) k (enterA vs hp) = some (x, st) → finish (tiOf P) fn hp st = some (v, hp', c) → (x = .normal ∨ x = .ret) →
              Calls P f xs w fun e w' => ∃ u, e = .returned u ∧ ∃ M' ρ', SubM M M' ∧ Ext ρ hp ρ' hp' ∧ Real M' ρ' β hp' lo w'.heap ∧ VRel M' ρ' hp' v u ∧ Adv w w' := by
            intro x st h1 h2 hxr
            refine calls_of_wp hf hb (code_sound (C := ⟨max fn.ntmps vs.length, β, lo, M, ρ, hp, w⟩) hm (evalF_sound cfg hm hpl hko hora n) (evalF_keeps P cfg hko n) n k _ x st _ w _ hk h1 hG fun a' w' hG' => ?_)
            obtain ⟨M', ρ', β', hM, hE, ⟨⟨lo', hR', hlo, hlf⟩, hfr, hkeys, henv, hsz, hdef⟩, hA⟩ := hG'
            obtain ⟨k1, k2⟩ := evalC_kept (evalF_keeps P cfg hko n) n k _ _ _ h1
            obtain ⟨k3, k4, k5⟩ := k2 (Nat.le_refl _)
            unfold finish at h2
            simp only [Option.bind_eq_some_iff] at h2
            obtain ⟨rs, hrs, h2⟩ := h2
            cases hLr : allNoL rs with
            | false => rw [hLr] at h2; cases h2
            | true =>
              rw [hLr] at h2
              simp only [cond_true, Option.some.injEq] at h2
              have hn : st.n0 = hp.length := k1
              rw [outN_eq fun hc => by rw [hn]; exact take_eq (k5 hc).2] at h2
              obtain ⟨u, hu, hur⟩ := results_rel (P := P) (w := w') hR' hlo henv hrs hLr
              obtain ⟨ρ'', o1, o2, o3⟩ := out_sound hR hE (hR'.unshift hfr hlf) k1 k4 (fun hc => (k5 hc).2) hur h2
              have post : a'.defers = [] ∧ ∃ v_1, (results fn a'.tmps).run P w' = .ok v_1 w' ∧ ∃ u, Ending.returned v_1 = .returned u ∧ ∃ M' ρ', SubM M M' ∧ Ext ρ hp ρ' hp' ∧ Real M' ρ' β hp' lo w'.heap ∧ VRel M' ρ' hp' v u ∧ Adv w w' :=
                ⟨hdef, u, hu, u, rfl, M', ρ'', hM, o1, o2, o3, hA⟩
              rcases hxr with rfl | rfl
              · exact post
              · exact post
          split at h
          · rename_i hs; exact fin hs h (.inl rfl)
          · rename_i hs; exact fin hs h (.inr rfl)
          · cases h

/-- THE MACHINE TELLS THE TRUTH. -/
theorem runF_calls {cfg : Cfgs} (hm : P.follows .mixedOrders = true) (hpl : Plain P) (hko : Keeps cfg.ora) (hora : RecSound P cfg.ora) {f : Nat} {vs : List AV} {v : AV} {hp' : List Blk} {c : Nat} (h : runF P cfg f vs hp = some (v, hp', c)) (hL : allNoL vs = true) {w : World} {xs : Array Value}
    (hR : Real M ρ β hp lo w.heap) (hl : xs.size = vs.length) (hx : ∀ (j : Nat) x u, vs[j]? = some x → xs[j]? = some u → VRel M ρ hp x u) :
    Calls P f xs w fun e w' => ∃ u, e = .returned u ∧ ∃ M' ρ', SubM M M' ∧ Ext ρ hp ρ' hp' ∧ Real M' ρ' β hp' lo w'.heap ∧ VRel M' ρ' hp' v u ∧ Adv w w' := by
  obtain ⟨n, hn⟩ := (runF_some P cfg).1 h
  exact (evalF_sound cfg hm hpl hko hora n f vs hp v hp' c hn hL).2 M ρ β lo w xs hR hl hx

end
end Go.Proofs.Ytjdciikfbinchaa.Abs
