/- The abstract machine: two operations of which neither looks at what the other does may be done in either order. -/
import Derived.Test.YtjdciikfbinchaaAbs16
namespace Go.Proofs.Ytjdciikfbinchaa.Abs
open Go

structure Eqv (s s' : St) : Prop where
  env : ∀ t, get s'.env t = get s.env t
  lo : ∀ d, s'.lo.lookup d = s.lo.lookup d
  hp : s'.hp = s.hp
  n0 : s'.n0 = s.n0
  cl : s'.cl = s.cl
theorem Eqv.refl (s : St) : Eqv s s := ⟨fun _ => rfl, fun _ => rfl, rfl, rfl, rfl⟩
theorem Eqv.symm {s s' : St} (h : Eqv s s') : Eqv s' s := ⟨fun t => (h.env t).symm, fun d => (h.lo d).symm, h.hp.symm, h.n0.symm, h.cl.symm⟩
theorem Eqv.trans {a b c : St} (h : Eqv a b) (k : Eqv b c) : Eqv a c := ⟨fun t => (k.env t).trans (h.env t), fun d => (k.lo d).trans (h.lo d), k.hp.trans h.hp, k.n0.trans h.n0, k.cl.trans h.cl⟩

theorem lookup_put' {d t : Nat} {v : AV} {l : List (Nat × AV)} : ((d, v) :: del d l).lookup t = if t = d then some v else l.lookup t := by
  have hd : ∀ l : List (Nat × AV), (del d l).lookup t = if t = d then none else l.lookup t := by
    intro l
    induction l with
    | nil => simp [del]
    | cons p l ih =>
      obtain ⟨s, v⟩ := p
      simp only [del]
      by_cases hs : s = d
      · subst hs
        simp only [BEq.rfl, cond_true, ih]
        by_cases ht : t = s
        · simp [ht]
        · have : (t == s) = false := by simpa using ht
          simp [ht, List.lookup_cons, this]
      · have h1 : (s == d) = false := by simpa using hs
        simp only [h1, cond_false, List.lookup_cons]
        by_cases ht : t = s
        · subst ht; simp [hs]
        · have : (t == s) = false := by simpa using ht
          simp [this, ih]
  rw [List.lookup_cons]
  by_cases h : t = d
  · simp [h]
  · have : (t == d) = false := by simpa using h
    simp [h, this, hd]
theorem get_put (env : List (Nat × AV)) (d t : Nat) (v : AV) : get ((d, v) :: del d env) t = if t = d then v else get env t := by
  unfold get
  rw [lookup_put']
  split <;> rfl

theorem lookup_putL (lo : List (Nat × List AV)) (e : Option (Nat × List AV)) (d : Nat) : (putL lo e).lookup d = match e with
    | some (d', cs) => if d = d' then some cs else lo.lookup d
    | none => lo.lookup d := by
  cases e with
  | none => rfl
  | some p =>
    obtain ⟨d', cs⟩ := p
    have hd : ∀ l : List (Nat × List AV), (del d' l).lookup d = if d = d' then none else l.lookup d := by
      intro l
      induction l with
      | nil => simp [del]
      | cons p l ih =>
        obtain ⟨s, v⟩ := p
        simp only [del]
        by_cases hs : s = d'
        · subst hs
          simp only [BEq.rfl, cond_true, ih]
          by_cases ht : d = s
          · simp [ht]
          · have : (d == s) = false := by simpa using ht
            simp [ht, List.lookup_cons, this]
        · have h1 : (s == d') = false := by simpa using hs
          simp only [h1, cond_false, List.lookup_cons]
          by_cases ht : d = s
          · subst ht; simp [hs]
          · have : (d == s) = false := by simpa using ht
            simp [this, ih]
    simp only [putL, List.lookup_cons]
    by_cases h : d = d'
    · simp [h]
    · have : (d == d') = false := by simpa using h
      simp [h, this, hd]

theorem get_clr (d : Nat) (env : List (Nat × AV)) (t : Nat) : get (clr d env) t = bif isL d (get env t) then .undef else get env t := by
  unfold get clr
  induction env with
  | nil => rfl
  | cons p l ih =>
    obtain ⟨s, v⟩ := p
    simp only [List.map_cons, List.lookup_cons]
    by_cases h : t = s
    · subst h; simp
    · have : (t == s) = false := by simpa using h
      simp only [this]
      exact ih

theorem noStale_iff {dst : Option Nat} {e : Eff} {env : List (Nat × AV)} : noStale dst e env = true ↔ ∀ d, e.v = .lptr d 0 → dst = some d → ∀ t, t ≠ d → isL d (get env t) = false := by
  unfold noStale
  split
  · rename_i d d' hv
    by_cases hd : d = d'
    · subst hd
      simp only [BEq.rfl, cond_true, List.all_eq_true]
      constructor
      · intro h d1 h1 h2 t ht
        have hdd : d1 = d := by rw [hv] at h1; cases h1; rfl
        subst hdd
        by_cases hm : ∃ v, env.lookup t = some v
        · obtain ⟨v, hl⟩ := hm
          obtain ⟨v', hmem⟩ : ∃ v', (t, v') ∈ env := by
            clear h
            induction env with
            | nil => cases hl
            | cons p l ih =>
              rw [List.lookup_cons] at hl
              obtain ⟨s, u⟩ := p
              by_cases hs : t = s
              · subst hs; exact ⟨u, by simp⟩
              · have : (t == s) = false := by simpa using hs
                simp only [this] at hl
                obtain ⟨v', hm⟩ := ih hl
                exact ⟨v', by simp [hm]⟩
          have := h _ hmem
          have ht' : (t == d1) = false := by simpa using ht
          simpa [ht'] using this
        · have : env.lookup t = none := by cases hl : env.lookup t <;> simp_all
          unfold get
          rw [this]
          rfl
      · intro h p hp
        by_cases hs : p.1 = d
        · simp [hs]
        · have := h d hv rfl p.1 hs
          simp [this]
    · have : (d == d') = false := by simpa using hd
      simp only [this, cond_false, true_iff]
      intro d1 h1 h2
      rw [hv] at h1
      cases h1
      cases h2
      exact absurd rfl hd
  · rename_i h
    simp only [true_iff]
    intro d h1 h2
    exact absurd h2 (fun h2 => h d d h1 (by rw [h2]))

/-- without stale pointers, an operation sets its own slot alone -/
theorem get_app {st : St} {dst : Option Nat} {e : Eff} (hn : noStale dst e st.env = true) (t : Nat) : get (st.app dst e).env t = if dst = some t then e.v else get st.env t := by
  rw [noStale_iff] at hn
  cases dst with
  | none =>
    simp only [St.app, putE]
    split
    · simp
    · simp
  | some d =>
    simp only [St.app, putE, Option.some.injEq]
    rw [get_put]
    by_cases ht : t = d
    · simp [ht]
    · rw [if_neg ht, if_neg (Ne.symm ht)]
      split
      · rename_i d1 hv
        by_cases hd : d1 = d
        · subst hd
          simp only [BEq.rfl, cond_true, get_clr, hn d1 hv rfl t ht, cond_false]
        · have : (d1 == d) = false := by simpa using hd
          simp [this]
      · rfl

section
variable {T : Nat → Option TI} {rec : Rec} {cfg : Cfg} {ops : Array Oper}

/-- what is done at an operation, and what it looks at -/
def Does (T : Nat → Option TI) (rec : Rec) (cfg : Cfg) (ops : Array Oper) (st : St) (o : Oper) (e : Eff) (f : Foot) : Prop :=
  noStale o.dst e st.env = true ∧ ((guardA ops o st = some true ∧ eff T rec cfg o st = some e ∧ f = foot o st e) ∨ (guardA ops o st = some false ∧ e = { v := .tup [] } ∧ f = footNo o st))

theorem app_no (st : St) (d : Option Nat) : st.app d { v := .tup [] } = { st with env := putE st.env d (.tup []) } := by simp [St.app, putL]

theorem stepD_does {st s1 : St} {o : Oper} {f : Foot} (h : stepD T rec cfg ops o st = some (s1, f)) : ∃ e, Does T rec cfg ops st o e f ∧ s1 = st.app o.dst e := by
  unfold stepD at h
  simp only [Option.bind_eq_some_iff] at h
  obtain ⟨g, hg, h⟩ := h
  cases g with
  | true =>
    simp only [cond_true, Option.bind_eq_some_iff] at h
    obtain ⟨e, he, h⟩ := h
    cases hn : noStale o.dst e st.env with
    | false => rw [hn] at h; cases h
    | true => rw [hn] at h; cases h; exact ⟨e, ⟨hn, .inl ⟨hg, he, rfl⟩⟩, rfl⟩
  | false => cases h; exact ⟨{ v := .tup [] }, ⟨rfl, .inr ⟨hg, rfl, rfl⟩⟩, (app_no _ _).symm⟩

theorem does_stepA {st : St} {o : Oper} {e : Eff} {f : Foot} (h : Does T rec cfg ops st o e f) : stepA T rec cfg ops o st = some (st.app o.dst e) := by
  obtain ⟨_, ⟨hg, he, _⟩ | ⟨hg, rfl, _⟩⟩ := h
  · simp [stepA, hg, he]
  · simp [stepA, hg, app_no]

theorem tmp_of {env : List (Nat × AV)} {x : Operand} {v : AV} (h : opd env x = some v) (hv : locL v ≠ [] ∨ locH v ≠ []) : ∃ t, x = .tmp t ∧ get env t = v := by
  cases x with
  | tmp t => exact ⟨t, rfl, by simpa [opd] using h⟩
  | const k =>
    simp only [opd] at h
    unfold constAV at h
    split at h <;> cases h <;> simp [locL, locH] at hv
  | func f => simp only [opd, Option.some.injEq] at h; subst h; simp [locL, locH] at hv
  | global g => cases h

theorem mem_tmpVs {env : List (Nat × AV)} {t : Nat} : ∀ {l : List Operand}, Operand.tmp t ∈ l → get env t ∈ tmpVs env l
  | x :: l, h => by
    rcases List.mem_cons.1 h with rfl | h
    · simp [tmpVs]
    · have := mem_tmpVs (env := env) h
      cases x <;> simp [tmpVs, this]

theorem tmpVs_ag {env env' : List (Nat × AV)} : ∀ {l : List Operand}, (∀ t, Operand.tmp t ∈ l → get env' t = get env t) → tmpVs env' l = tmpVs env l
  | [], _ => rfl
  | x :: l, h => by
    have ih := tmpVs_ag (env := env) (env' := env') fun t ht => h t (List.mem_cons_of_mem x ht)
    cases x with
    | tmp t => simp only [tmpVs, ih, h t (by simp)]
    | _ => simp only [tmpVs, ih]

theorem looks_op {o : Oper} {t : Nat} (h : Operand.tmp t ∈ o.op.operands.toList) : t ∈ looks ops o := by
  unfold looks
  refine List.mem_append.2 (.inl (List.mem_filterMap.2 ⟨_, h, rfl⟩))

theorem looksH_sub {o : Op} {x : Operand} (h : x ∈ looksH o) : x ∈ o.operands.toList := by
  cases o <;> simp [looksH, Op.operands] at h ⊢ <;> first | exact h | (exact .inl h) | skip
  simp only [Call.operands, Array.mem_append]
  exact .inr h
theorem writesH_sub {o : Op} {x : Operand} (h : x ∈ writesH o) : x ∈ o.operands.toList := by
  cases o <;> simp [writesH, Op.operands] at h ⊢ <;> first | exact h | (exact .inl h) | skip
  simp only [Call.operands, Array.mem_append]
  exact .inr (by simpa using List.mem_of_mem_take h)

theorem does_ag {s s' : St} {o : Oper} {e : Eff} {f : Foot} (h : Does T rec cfg ops s o e f) (hk : ∀ t ∈ looks ops o, get s'.env t = get s.env t)
    (hl : ∀ d, Loc.lo d ∈ f.rd → s'.lo.lookup d = s.lo.lookup d) (hh : s'.hp = s.hp ∨ (f.act = false ∧ ∀ k, Loc.hp k ∈ f.rd → s'.hp[k]? = s.hp[k]?)) (hn0 : s'.n0 = s.n0)
    (hd : ∀ d, o.dst = some d → locL (get s'.env d) = locL (get s.env d)) (hs : noStale o.dst e s'.env = true) : Does T rec cfg ops s' o e f := by
  obtain ⟨_, h⟩ := h
  refine ⟨hs, ?_⟩
  have hg : guardA ops o s' = guardA ops o s := by
    unfold guardA
    cases ho : o.guard with
    | none => rfl
    | some g =>
      obtain ⟨j, want⟩ := g
      simp only
      cases hj : (ops[j]?).bind (·.dst) with
      | none => rfl
      | some d =>
        simp only [Option.bind_some]
        rw [hk d (by unfold looks; simp [ho, hj])]
  have hop : ∀ t, Operand.tmp t ∈ o.op.operands.toList → get s'.env t = get s.env t := fun t ht => hk t (looks_op ht)
  have hdl : dstL s'.env o.dst = dstL s.env o.dst := by
    cases ho : o.dst with
    | none => rfl
    | some d => exact hd d ho
  rcases h with ⟨h1, h2, rfl⟩ | ⟨h1, h2, rfl⟩
  · refine .inl ⟨by rw [hg]; exact h1, ?_, ?_⟩
    · -- the effect
      have hopd : ∀ x ∈ o.op.operands.toList, opd s'.env x = opd s.env x := fun x hx => by
        cases x with
        | tmp t => simp only [opd, hop t hx]
        | _ => rfl
      have e1 : eff T rec cfg o { s with env := s'.env, lo := s'.lo } = some e := by
        refine eff_ag1 (st := s) hopd (fun x hx d c hxv r hr => ?_) rfl rfl h2
        obtain ⟨t, rfl, ht⟩ := tmp_of hxv (.inl (by simp [locL]))
        have hm : Loc.lo d ∈ (foot o s e).rd := by
          unfold foot
          refine List.mem_append_left _ (List.mem_append_left _ (List.mem_append_left _ (List.mem_append_left _ (List.mem_flatMap.2 ⟨_, mem_tmpVs hx, by rw [ht]; simp [locL]⟩))))
        show s'.lo.lookup d = some r
        rw [hl d hm]
        exact hr
      have e2 : eff T rec cfg o { s with env := s'.env, lo := s'.lo, hp := s'.hp } = some e := by
        rcases hh with hh | ⟨hact, hag⟩
        · rw [hh]; exact e1
        · have hnone : e.hp = none := by
            unfold foot at hact
            cases he : e.hp with
            | none => rfl
            | some x => simp [he] at hact
          have hcall : isCallFn o.op = false := by
            cases hcf : isCallFn o.op with
            | false => rfl
            | true =>
              exfalso
              unfold eff at h2
              cases ho : o.op with
              | call c =>
                rw [ho] at h2
                simp only [Option.bind_eq_some_iff] at h2
                obtain ⟨vs, _, h2⟩ := h2
                have call : ∀ {f : Nat} {ws : List AV}, callA rec s.hp s.n0 f ws = some e → False := by
                  intro f ws h
                  unfold callA at h
                  cases hL : allNoL ws with
                  | false => rw [hL] at h; cases h
                  | true =>
                    rw [hL] at h
                    simp only [cond_true, Option.map_eq_some_iff] at h
                    obtain ⟨_, _, rfl⟩ := h
                    cases hnone
                split at h2
                · exact call h2
                · simp only [Option.bind_eq_some_iff] at h2
                  obtain ⟨v, _, h2⟩ := h2
                  split at h2
                  · exact call h2
                  · cases h2
                · rename_i b hb
                  simp [isCallFn, ho, callFn, hb] at hcf
                · cases h2
              | _ => simp [isCallFn, ho] at hcf
          refine eff_ag2 (st := { s with env := s'.env, lo := s'.lo }) hcall hnone (fun x hx v hv k hkk => ?_) e1
          obtain ⟨t, rfl, ht⟩ := tmp_of hv (.inr (fun h0 => by rw [h0] at hkk; cases hkk))
          refine hag k ?_
          unfold foot
          refine List.mem_append_left _ (List.mem_append_right _ (List.mem_flatMap.2 ⟨_, mem_tmpVs hx, ?_⟩))
          rw [← hop t (looksH_sub hx)]
          exact ht ▸ hkk
      have hs' : s' = { s with env := s'.env, lo := s'.lo, hp := s'.hp, cl := s'.cl } := by cases s'; cases hn0; rfl
      have e3 : eff T rec cfg o { s with env := s'.env, lo := s'.lo, hp := s'.hp, cl := s'.cl } = some e := eff_ag1 (st := { s with env := s'.env, lo := s'.lo, hp := s'.hp }) (fun _ _ => rfl) (fun _ _ _ _ _ _ h => h) rfl rfl e2
      rw [hs']
      exact e3
    · -- the foot
      have t1 : tmpVs s'.env o.op.operands.toList = tmpVs s.env o.op.operands.toList := tmpVs_ag hop
      have t2 : tmpVs s'.env (looksH o.op) = tmpVs s.env (looksH o.op) := tmpVs_ag fun t ht => hop t (looksH_sub ht)
      have t3 : tmpVs s'.env (writesH o.op) = tmpVs s.env (writesH o.op) := tmpVs_ag fun t ht => hop t (writesH_sub ht)
      unfold foot
      rw [t1, t2, t3, hdl]
      rcases hh with hh | ⟨hact, _⟩
      · rw [hh]
      · unfold foot at hact
        cases he : e.hp with
        | none => simp
        | some x => simp [he] at hact
  · refine .inr ⟨by rw [hg]; exact h1, h2, ?_⟩
    unfold footNo
    rw [hdl]

end
end Go.Proofs.Ytjdciikfbinchaa.Abs
