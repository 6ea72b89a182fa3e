/- The abstract machine: a step of the model's, for a step of the machine's. -/
import Derived.Test.YtjdciikfbinchaaAbs14
import Derived.Test.YtjdciikfbinchaaAbs18
import Derived.Orders
namespace Go.Proofs.Ytjdciikfbinchaa.Abs
open Go

/-- within one call: K slots of its own; βf, lf: the variables of the callers -/
structure Held (K : Nat) (βf : Nat → Option Nat) (lf : List (Nat × List AV)) (M : Mem) (ρ : Rho) (β : Nat → Option Nat) (st : St) (a : Act) (w : World) : Prop where
  real : ∃ lo, Real M ρ β st.hp lo w.heap ∧ (∀ d v, st.lo.lookup d = some v → lo.lookup d = some v) ∧ (∀ d, K ≤ d → lo.lookup d = lf.lookup (d - K))
  frame : ∀ d, K ≤ d → β d = βf (d - K)
  keys : ∀ d v, st.lo.lookup d = some v → d < K
  env : EnvR M ρ β st.hp st.env a.tmps
  size : K ≤ a.tmps.size
  defers : a.defers = []

/-- what holds of state and world since the call began -/
structure Ctx where
  K : Nat
  βf : Nat → Option Nat
  lf : List (Nat × List AV)
  M : Mem
  ρ : Rho
  hp : List Blk
  w : World

def Good (C : Ctx) (st : St) (a : Act) (w : World) : Prop := ∃ M ρ β, SubM C.M M ∧ Ext C.ρ C.hp ρ st.hp ∧ Held C.K C.βf C.lf M ρ β st a w ∧ Adv C.w w

section
variable {P : Program} {rec : Rec} {cfg : Cfg} {st st' : St} {o : Oper} {e : Eff} {C : Ctx} {a : Act} {w : World}

theorem eff_lo_key {T : Nat → Option TI} (h : eff T rec cfg o st = some e) {d : Nat} {cs : List AV} (hl : e.lo = some (d, cs)) : o.dst = some d ∨ ∃ v, st.lo.lookup d = some v := by
  have valN : ∀ {x : Option AV}, val x = some e → False := fun hv => by
    unfold val at hv
    simp only [Option.map_eq_some_iff] at hv
    obtain ⟨v, _, rfl⟩ := hv
    cases hl
  have var : ∀ {esc : Bool} {ty : Nat} {cs' : List AV}, varA esc st.hp o.dst ty cs' = some e → o.dst = some d := by
    intro esc ty cs' h
    unfold varA at h
    split at h
    · rename_i d' hd
      cases esc with
      | true =>
        simp only [cond_true] at h
        split at h
        · cases h; cases hl
        · cases h
      | false => cases h; cases hl; exact hd
    · cases h
  have call : ∀ {f : Nat} {ws : List AV}, callA rec st.hp st.n0 f ws = some e → False := by
    intro f ws h
    unfold callA at h
    cases hL : allNoL ws with
    | false => rw [hL] at h; cases h
    | true =>
      rw [hL] at h
      simp only [cond_true, Option.map_eq_some_iff] at h
      obtain ⟨_, _, rfl⟩ := h
      cases hl
  unfold eff at h
  cases ho : o.op with
  | alloc t =>
    rw [ho] at h
    simp only [Option.bind_eq_some_iff] at h
    obtain ⟨ti, h1, h2⟩ := h
    exact .inl (var h2)
  | box t x =>
    rw [ho] at h
    simp only [Option.bind_eq_some_iff] at h
    obtain ⟨ti, h1, v, h2, h3⟩ := h
    split at h3
    · exact .inl (var h3)
    · cases h3
  | buildSlice t n parts =>
    rw [ho] at h
    simp only [Option.bind_eq_some_iff] at h
    obtain ⟨el, h1, ps, h2, h3⟩ := h
    split at h3
    · simp only [Option.bind_eq_some_iff] at h3
      obtain ⟨rows, hr, h3⟩ := h3
      cases hv : cfg.virt.contains (o.dst.getD 0) with
      | true => rw [hv] at h3; cases h3; cases hl
      | false => rw [hv] at h3; cases h3; cases hl
    · cases h3
  | makeSlice t l c =>
    rw [ho] at h
    simp only [Option.bind_eq_some_iff] at h
    obtain ⟨el, h1, vl, h2, vc, h3, h4⟩ := h
    split at h4
    · split at h4
      · cases h4; cases hl
      · cases h4
    · cases h4
  | store t p x =>
    rw [ho] at h
    simp only [Option.bind_eq_some_iff] at h
    obtain ⟨vp, h1, vx, h2, h3⟩ := h
    unfold storeA at h3
    split at h3
    · split at h3
      · split at h3
        · split at h3
          · rename_i row hrow
            split at h3
            · cases h3; cases hl; exact .inr ⟨row, hrow⟩
            · cases h3
          · cases h3
        · split at h3
          · split at h3
            · split at h3
              · cases h3; cases hl
              · cases h3
            · cases h3
          · cases h3
        · cases h3
      · cases h3
    · cases h3
  | call c =>
    rw [ho] at h
    simp only [Option.bind_eq_some_iff] at h
    obtain ⟨vs, hvs, h⟩ := h
    split at h
    · exact (call h).elim
    · simp only [Option.bind_eq_some_iff] at h
      obtain ⟨v, hv, h⟩ := h
      split at h
      · exact (call h).elim
      · cases h
    · rename_i b hb
      unfold builtinA at h
      split at h
      · exact (valN h).elim
      · simp only [Option.map_eq_some_iff] at h
        obtain ⟨_, _, rfl⟩ := h
        cases hl
      · rename_i ty ty2 s x _
        simp only [Option.bind_eq_some_iff] at h
        obtain ⟨⟨el, te⟩, h1, h⟩ := h
        have app : ∀ {new : List (List AV)}, appendA st.hp st.n0 el te s new = some e → False := by
          intro new h
          cases s with
          | nilsl =>
            cases new with
            | nil => cases h; cases hl
            | cons r rs =>
              simp only [appendA] at h
              split at h
              · cases h; cases hl
              · cases h
          | esl =>
            cases new with
            | nil => cases h; cases hl
            | cons r rs =>
              simp only [appendA] at h
              split at h
              · cases h; cases hl
              · cases h
          | sl k r n t =>
            cases r with
            | zero =>
              simp only [appendA] at h
              split at h
              · split at h
                · split at h
                  · cases h; cases hl
                  · split at h
                    · cases h; cases hl
                    · cases h
                · cases h
              · cases h
            | succ r => cases h
          | _ => cases h
        simp only at h
        split at h
        · cases hi : isInt T ty2 with
          | true =>
            rw [hi] at h
            simp only [cond_true] at h
            split at h
            · split at h
              · exact (app h).elim
              · cases h
            · cases h
          | false =>
            rw [hi] at h
            simp only [cond_false] at h
            cases hs : isSrc T ty2 with
            | false => rw [hs] at h; cases h
            | true =>
              rw [hs] at h
              simp only [cond_true, Option.bind_eq_some_iff] at h
              obtain ⟨new, h2, h⟩ := h
              exact (app h).elim
        · cases h
      · simp only [Option.bind_eq_some_iff] at h
        obtain ⟨el, h1, h⟩ := h
        unfold clearA at h
        split at h
        · cases h; cases hl
        · cases h; cases hl
        · simp only [Option.bind_eq_some_iff] at h
          obtain ⟨b, hb, h⟩ := h
          split at h
          · cases h; cases hl
          · cases h
        · cases h
      · exact (valN h).elim
      · exact (valN h).elim
      · cases h
    · cases h
  | nilCheck x =>
    rw [ho] at h
    simp only [Option.bind_eq_some_iff] at h
    obtain ⟨vx, h1, h2⟩ := h
    split at h2
    · cases h2; cases hl
    · cases h2; cases hl
    · simp only [Option.map_eq_some_iff] at h2
      obtain ⟨_, _, rfl⟩ := h2
      cases hl
    · cases h2; cases hl
    · cases h2
  | makeFunc fn first captured =>
    rw [ho] at h
    cases fn with
    | func f =>
      simp only at h
      split at h
      · simp only [Option.bind_eq_some_iff] at h
        obtain ⟨vs, hvs, h⟩ := h
        cases hL : allNoL vs with
        | false => rw [hL] at h; cases h
        | true => rw [hL] at h; cases h; cases hl
      · cases h
    | _ => cases h
  | extract x i =>
    rw [ho] at h
    simp only [Option.bind_eq_some_iff] at h
    obtain ⟨vx, h1, h2⟩ := h
    split at h2
    · exact (valN h2).elim
    · cases h2
  | slice t x l u m =>
    rw [ho] at h
    simp only [Option.bind_eq_some_iff] at h
    obtain ⟨_, _, _, _, _, _, _, _, h⟩ := h
    exact (valN h).elim
  | pick c x y =>
    rw [ho] at h
    simp only [Option.bind_eq_some_iff] at h
    obtain ⟨_, _, _, _, _, _, h⟩ := h
    exact (valN h).elim
  | move x => rw [ho] at h; exact (valN h).elim
  | assign x => rw [ho] at h; exact (valN h).elim
  | build t ps => rw [ho] at h; simp only [Option.bind_eq_some_iff] at h; obtain ⟨_, _, h⟩ := h; exact (valN h).elim
  | load t x => rw [ho] at h; simp only [Option.bind_eq_some_iff] at h; obtain ⟨_, _, h⟩ := h; exact (valN h).elim
  | unOp p t x => rw [ho] at h; simp only [Option.bind_eq_some_iff] at h; obtain ⟨_, _, h⟩ := h; exact (valN h).elim
  | convert s t x => rw [ho] at h; simp only [Option.bind_eq_some_iff] at h; obtain ⟨_, _, h⟩ := h; exact (valN h).elim
  | fieldAddr s x f => rw [ho] at h; simp only [Option.bind_eq_some_iff] at h; obtain ⟨_, _, h⟩ := h; exact (valN h).elim
  | field s x f => rw [ho] at h; simp only [Option.bind_eq_some_iff] at h; obtain ⟨_, _, h⟩ := h; exact (valN h).elim
  | binOp p t x y z => rw [ho] at h; simp only [Option.bind_eq_some_iff] at h; obtain ⟨_, _, _, _, h⟩ := h; exact (valN h).elim
  | indexAddr t x y => rw [ho] at h; simp only [Option.bind_eq_some_iff] at h; obtain ⟨_, _, _, _, h⟩ := h; exact (valN h).elim
  | index t x y => rw [ho] at h; simp only [Option.bind_eq_some_iff] at h; obtain ⟨_, _, _, _, h⟩ := h; exact (valN h).elim
  | _ => rw [ho] at h; cases h

theorem ERel.upd {M : Mem} {ρ : Rho} {β : Nat → Option Nat} {hp : List Blk} {x : AV} {v : Value} {d g : Nat} (h : ERel M ρ β hp x v) (hx : isL d x = false) : ERel M ρ (upd β d g) hp x v := by
  rcases h with ⟨d', c, g', rfl, hg, hv⟩ | h
  · refine .inl ⟨d', c, g', rfl, ?_, hv⟩
    rw [upd_ne _ _ (by rintro rfl; simp [isL] at hx)]
    exact hg
  · exact .inr h

theorem bool_at {M : Mem} {ρ : Rho} {β : Nat → Option Nat} {hp : List Blk} {tmps : Array Value} {d : Nat} {b : Bool} (h : ERel M ρ β hp (.bool b) (tmps.getD d undef)) : tmps[d]? = some (.bool b) := by
  have h := h.bool_inv
  rw [Array.getD_eq_getD_getElem?] at h
  cases ht : tmps[d]? with
  | none => rw [ht] at h; cases h
  | some u => rw [ht] at h; simp at h; rw [h]

theorem get_app_ne {st : St} {d t : Nat} {e : Eff} (ht : t ≠ d) : (e.v = .lptr d 0 ∧ get (st.app (some d) e).env t = bif isL d (get st.env t) then .undef else get st.env t) ∨ (e.v ≠ .lptr d 0 ∧ get (st.app (some d) e).env t = get st.env t) := by
  by_cases hv : e.v = .lptr d 0
  · refine .inl ⟨hv, ?_⟩
    simp only [St.app, putE, hv, BEq.rfl, cond_true]
    rw [get_put, if_neg ht, get_clr]
  · refine .inr ⟨hv, ?_⟩
    simp only [St.app, putE]
    rw [get_put, if_neg ht]
    split
    · rename_i d1 hv1
      have : (d1 == d) = false := by simpa using fun h => hv (by rw [hv1, h])
      simp [this]
    · rfl

/-- ONE STEP. -/
theorem step_sound {ops : Array Oper} {i : Nat} {Q : Exit → Act → World → Prop} (hrec : RecSound P rec) (hi : ops[i]? = some o) (hd : ∀ d : Nat, o.dst = some d → d < C.K) (h : stepA (tiOf P) rec cfg ops o st = some st') (hG : Good C st a w) :
    wpOp P ops Q i (Good C st') a w := by
  obtain ⟨M, ρ, β, hM, hE, ⟨⟨lo, hR, hlo, hlf⟩, hfr, hkeys, henv, hsz, hdef⟩, hA⟩ := hG
  unfold stepA at h
  simp only [Option.bind_eq_some_iff] at h
  obtain ⟨g, hg, h⟩ := h
  have hw : Region.wanted o (yielded ops a.tmps) = g := by
    unfold guardA at hg
    unfold Region.wanted
    cases hgd : o.guard with
    | none => rw [hgd] at hg; cases hg; rfl
    | some p =>
      obtain ⟨j, want⟩ := p
      rw [hgd] at hg
      simp only [Option.bind_eq_some_iff] at hg
      obtain ⟨d, hd1, hg⟩ := hg
      split at hg
      · rename_i b hb
        cases hg
        have hb' := henv d
        rw [hb] at hb'
        have := bool_at hb'
        obtain ⟨oj, hoj, hdj⟩ := hd1
        unfold yielded
        simp only [hoj, Option.bind_some, hdj, this]
        cases b <;> cases want <;> rfl
      · rename_i hb
        cases hg
        have hb' := henv d
        rw [hb] at hb'
        have hv := hb'.v (fun _ _ e => by cases e)
        obtain ⟨oj, hoj, hdj⟩ := hd1
        unfold yielded
        simp only [hoj, Option.bind_some, hdj]
        rw [Array.getD_eq_getD_getElem?] at hv
        cases ht : a.tmps[d]? with
        | none => rfl
        | some u =>
          rw [ht] at hv
          cases hv
          rfl
      · cases hg
  unfold wpOp
  simp only [hi]
  cases g with
  | false =>
    rw [hw]
    simp only [cond_false, Option.some.injEq] at h
    subst h
    simp only [Bool.false_eq_true, if_false]
    refine ⟨M, ρ, β, hM, hE, ⟨⟨lo, hR, hlo, hlf⟩, hfr, hkeys, fun t => ?_, ?_, ?_⟩, hA⟩
    · cases ho : o.dst with
      | none => exact henv t
      | some d =>
        simp only [putE, Act.put]
        rw [get_put]
        by_cases ht : t = d
        · rw [if_pos ht]; subst ht; rw [Array.getD_eq_getD_getElem?, Array.getElem?_setIfInBounds_self_of_lt (Nat.lt_of_lt_of_le (hd _ ho) hsz)]; exact .inr (.tup rfl fun j x u hj => by simp at hj)
        · rw [if_neg ht, Array.getD_eq_getD_getElem?, Array.getElem?_setIfInBounds_ne (Ne.symm ht), ← Array.getD_eq_getD_getElem?]; exact henv t
    · cases o.dst <;> simp [Act.put, hsz]
    · cases o.dst <;> simp [Act.put, hdef]
  | true =>
    rw [hw]
    simp only [cond_true, Option.map_eq_some_iff] at h
    obtain ⟨e, he, rfl⟩ := h
    simp only [if_true]
    refine .inl ?_
    have he2 : eff (tiOf P) rec cfg o { st with lo := lo } = some e := eff_ag1 (st := st) (fun _ _ => rfl) (fun x _ d c _ r hr => hlo d r hr) rfl rfl he
    refine eff_sound (st := { st with lo := lo }) hrec hR henv he2 _ _ fun u w' hP => ?_
    obtain ⟨M', ρ', β', hM', hE', hR', hv', hA', hβ⟩ := hP
    have hkey : ∀ d cs, e.lo = some (d, cs) → d < C.K := fun d cs hl => by
      rcases eff_lo_key he hl with hd1 | ⟨v, hv⟩
      · exact hd d hd1
      · exact hkeys d v hv
    refine ⟨M', ρ', β', hM.trans hM', hE.trans hE', ⟨⟨putL lo e.lo, hR', fun d v hl => ?_, fun d hK => ?_⟩, fun d hK => ?_, fun d v hl => ?_, fun t => ?_, ?_, ?_⟩, hA.trans hA'⟩
    · rw [lookup_putL]
      rw [app_lo] at hl
      cases hlo' : e.lo with
      | none => rw [hlo'] at hl; exact hlo d v hl
      | some p =>
        rw [hlo'] at hl
        simp only at hl ⊢
        split
        · rename_i hdd; rw [if_pos hdd] at hl; exact hl
        · rename_i hdd; rw [if_neg hdd] at hl; exact hlo d v hl
    · rw [lookup_putL]
      cases hlo' : e.lo with
      | none => exact hlf d hK
      | some p =>
        have := hkey p.1 p.2 hlo'
        simp only
        rw [if_neg (by omega)]
        exact hlf d hK
    · rcases hβ with rfl | ⟨d', g, hd', hv, rfl⟩
      · exact hfr d hK
      · have := hd d' hd'
        rw [upd_ne _ _ (by omega)]
        exact hfr d hK
    · rw [app_lo] at hl
      cases hlo' : e.lo with
      | none => rw [hlo'] at hl; exact hkeys d v hl
      | some p =>
        rw [hlo'] at hl
        simp only at hl
        split at hl
        · rename_i hdd; rw [hdd]; exact hkey p.1 p.2 hlo'
        · exact hkeys d v hl
    · -- the slots
      have hold : ∀ t, ERel M' ρ' β (st.app o.dst e).hp (get st.env t) (a.tmps.getD t undef) := fun t => (henv t).mono hM' hE'
      cases ho : o.dst with
      | none =>
        have hβ' : β' = β := by
          rcases hβ with h | ⟨d', g, hd', _⟩
          · exact h
          · rw [ho] at hd'; cases hd'
        rw [hβ']
        have := hold t
        rw [ho] at this
        have henv' : (st.app none e).env = st.env := by
          simp only [St.app, putE]
          split <;> rfl
        rw [henv']
        exact this
      | some d =>
        have hdK := hd d ho
        simp only [Act.put]
        by_cases ht : t = d
        · subst ht
          rw [Array.getD_eq_getD_getElem?, Array.getElem?_setIfInBounds_self_of_lt (by omega)]
          have : get (st.app (some t) e).env t = e.v := by simp only [St.app, putE]; rw [get_put, if_pos rfl]
          rw [this]
          exact hv'
        · rw [Array.getD_eq_getD_getElem?, Array.getElem?_setIfInBounds_ne (Ne.symm ht), ← Array.getD_eq_getD_getElem?]
          have hold := hold t
          rw [ho] at hold
          rcases get_app_ne (st := st) (e := e) ht with ⟨hv, hget⟩ | ⟨hv, hget⟩
          · rw [hget]
            cases hL : isL d (get st.env t) with
            | true => exact .inr (.undef _)
            | false =>
              rcases hβ with rfl | ⟨d', g, hd', hv2, rfl⟩
              · exact hold
              · rw [ho] at hd'
                cases hd'
                exact hold.upd hL
          · rw [hget]
            rcases hβ with rfl | ⟨d', g, hd', hv2, rfl⟩
            · exact hold
            · rw [ho] at hd'
              cases hd'
              exact absurd hv2 hv
    · cases o.dst <;> simp [Act.put, hsz]
    · cases o.dst <;> simp [Act.put, hdef]

theorem Good.drew (h : Good C st a w) : Good C st a { w with drawn := w.drawn + 1 } := by
  obtain ⟨M, ρ, β, hM, hE, ⟨⟨lo, hR, hlo, hlf⟩, hfr, hkeys, henv, hsz, hdef⟩, hA⟩ := h
  exact ⟨M, ρ, β, hM, hE, ⟨⟨lo, hR, hlo, hlf⟩, hfr, hkeys, henv, hsz, hdef⟩, ⟨hA.os, hA.tape, hA.output, hA.size⟩⟩

theorem Good.eqv {s s' : St} (he : Eqv s s') (h : Good C s a w) : Good C s' a w := by
  obtain ⟨M, ρ, β, hM, hE, ⟨⟨lo, hR, hlo, hlf⟩, hfr, hkeys, henv, hsz, hdef⟩, hA⟩ := h
  refine ⟨M, ρ, β, hM, by rw [he.hp]; exact hE, ⟨⟨lo, by rw [he.hp]; exact hR, fun d v hl => hlo d v (by rw [← he.lo]; exact hl), hlf⟩, hfr, fun d v hl => hkeys d v (by rw [← he.lo]; exact hl), fun t => by rw [he.env, he.hp]; exact henv t, hsz, hdef⟩, hA⟩

/-- a region in its own order -/
theorem ops_sound {ops : Array Oper} {Q : Exit → Act → World → Prop} (hrec : RecSound P rec) : ∀ (l : List Nat) (os : List Oper) (st st' : St) (a : Act) (w : World), (l.map fun i => ops[i]?) = os.map some → (∀ o ∈ os, ∀ d : Nat, o.dst = some d → d < C.K) →
    runOps (tiOf P) rec cfg ops os st = some st' → Good C st a w → (∀ a' w', Good C st' a' w' → Q .normal a' w') → wpOps P ops Q l a w
  | [], os, st, st', a, w, hl, _, h, hG, k => by
    cases os with
    | nil => cases h; exact k a w hG
    | cons o os => cases hl
  | i :: l, os, st, st', a, w, hl, hd, h, hG, k => by
    cases os with
    | nil => cases hl
    | cons o os =>
      simp only [List.map_cons, List.cons.injEq] at hl
      simp only [runOps, Option.bind_eq_some_iff] at h
      obtain ⟨s1, h1, h2⟩ := h
      rw [wpOps_cons]
      exact wpOp_mono (fun a' w' hG' => ops_sound hrec l os s1 st' a' w' hl.2 (fun o ho => hd o (by simp [ho])) h2 hG' k) (step_sound hrec hl.1 (hd o (by simp)) h1 hG)

end
end Go.Proofs.Ytjdciikfbinchaa.Abs
